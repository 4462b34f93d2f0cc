/- Parts of the proofs of the journal's statements, joined: JCode. -/
import Derived.Test.YtpmlioigoiipaaaP1
import Derived.Test.YtpmlioigoiipaaaChecked
import Derived.KernelRfl

namespace Go.Am
open Go.Proofs

/-! 3: modelcheck/modelchecklaw50.JournalCrash -/

def ann3 : Ann := [{ id := 0, live := [0] },
  { id := 1, live := [0] },
  { id := 2, live := [] },
  { id := 3, live := [0], marks := [(0, { md := .o })] },
  { id := 4, live := [0, 3] },
  { id := 5, live := [0, 3, 4, 5] },
  { id := 6, live := [] },
  { id := 7, live := [0, 3, 4] },
  { id := 8, live := [0, 3, 4, 6], drop := [0, 3, 4] },
  { id := 10, live := [0, 3, 4, 6] },
  { id := 11, live := [] },
  { id := 12, live := [0, 3, 4, 6], marks := [(1, { byRef := [0] })] },
  { id := 13, live := [0, 3, 4, 6, 7, 8, 9], marks := [(1, { byRef := [0] })] },
  { id := 14, live := [0, 3, 4, 6, 7, 8, 9, 10, 11], marks := [(13, { byRef := [1] })] },
  { id := 15, live := [] },
  { id := 16, live := [0, 3, 4, 6, 7, 10], marks := [(6, { byRef := [0] })] },
  { id := 17, live := [] },
  { id := 18, live := [0, 3, 4, 6, 10], marks := [(1, { byRef := [0] })] },
  { id := 19, live := [0, 3, 6, 10, 11, 12] },
  { id := 20, live := [0, 3, 6, 10, 11, 12, 13, 14] },
  { id := 21, live := [] },
  { id := 22, live := [0, 3, 6, 10, 12, 13] },
  { id := 23, live := [0, 3, 6, 10, 12, 13, 15, 16] },
  { id := 24, live := [0, 3, 6, 10, 12, 13, 15, 16, 17], drop := [0, 3, 10, 12, 13] },
  { id := 26, live := [0, 3, 6, 10, 12, 13, 15, 16, 17] },
  { id := 27, live := [0, 3, 6, 10, 12, 13, 15, 16, 17, 18] },
  { id := 28, live := [0, 3, 6, 10, 12, 13, 15, 16, 17] },
  { id := 29, live := [0, 3, 6, 10, 12, 13, 15, 16, 17, 18] },
  { id := 30, live := [0, 3, 6, 10, 12, 13, 15, 16, 17, 18] },
  { id := 31, live := [0, 3, 6, 10, 12, 13, 15, 16, 17, 18], marks := [(3, { byRef := [0] })] },
  { id := 32, live := [] },
  { id := 25, live := [0, 3, 6, 10, 12, 13, 15, 16, 17] },
  { id := 33, live := [0, 3, 6, 13, 15, 16], marks := [(4, { byRef := [0] })] },
  { id := 34, live := [] },
  { id := 35, live := [0, 3, 6, 13, 15] },
  { id := 36, live := [0, 3, 6, 13], marks := [(7, { md := .o })] },
  { id := 37, live := [0, 3, 6, 13] },
  { id := 9, live := [0, 3, 4, 6] },
  { id := 38, live := [3, 4], marks := [(1, { byRef := [0] })] },
  { id := 39, live := [3, 20, 21], marks := [(5, { byRef := [1] })] }]

@[simp] def r3_0 : AReg := ⟨[0], [], [
    ⟨some 2, .mv (.c (.dat (.bool false))), none, false⟩], []⟩
@[simp] def r3_1 : AReg := ⟨[0], [], [
    ⟨some 22, .mv (.t 0), none, false⟩,
    ⟨some 23, .len false (.t 22), none, false⟩,
    ⟨some 24, .bin .int .gtr (.t 23) (.c (.dat (.int .i64 12))), none, false⟩], []⟩
@[simp] def r3_2 : AReg := ⟨[], [], [
    ⟨some 25, .call 8 [] true, none, false⟩,
    ⟨some 2, .mv (.t 25), none, false⟩], []⟩
@[simp] def r3_3 : AReg := ⟨[0], [], [
    ⟨some 3, .mvNil .o 1, none, false⟩], []⟩
@[simp] def r3_4 : AReg := ⟨[0, 3], [], [
    ⟨some 27, .call 9 [((.c (.dat (.int .i64 20))), false)] false, none, false⟩,
    ⟨some 26, .mv (.t 27), none, false⟩,
    ⟨some 28, .ext 0 (.t 26), none, false⟩,
    ⟨some 29, .ext 1 (.t 26), none, false⟩,
    ⟨some 4, .mv (.t 28), none, false⟩,
    ⟨some 5, .mv (.t 29), none, false⟩], []⟩
@[simp] def r3_5 : AReg := ⟨[0, 3, 4, 5], [], [
    ⟨some 30, .mv (.t 5), none, false⟩,
    ⟨some 31, .bin .int .neq (.t 30) (.c (.dat (.int .i64 0))), none, false⟩], []⟩
@[simp] def r3_6 : AReg := ⟨[], [], [
    ⟨some 2, .mv (.c (.dat (.bool false))), none, false⟩], []⟩
@[simp] def r3_7 : AReg := ⟨[0, 3, 4], [], [
    ⟨some 6, .mv (.c (.dat (.int .i64 0))), none, false⟩], []⟩
@[simp] def r3_8 : AReg := ⟨[0, 3, 4, 6], [0, 3, 4], [
    ⟨some 32, .mv (.t 6), none, false⟩,
    ⟨some 33, .mv (.t 0), none, false⟩,
    ⟨some 34, .len false (.t 33), none, false⟩,
    ⟨some 35, .bin .int .lss (.t 32) (.t 34), none, false⟩], []⟩
@[simp] def r3_9 : AReg := ⟨[0, 3, 4, 6], [], [
    ⟨some 38, .mv (.t 0), none, false⟩,
    ⟨some 39, .mv (.t 6), none, false⟩,
    ⟨some 40, .iAddr 2 (.t 38) (.t 39), none, false⟩,
    ⟨some 41, .fAddr 0 (.t 40), none, false⟩,
    ⟨some 42, .ld 1 false (.t 41), none, false⟩,
    ⟨some 43, .len false (.t 42), none, false⟩,
    ⟨some 44, .bin .int .gtr (.t 43) (.c (.dat (.int .i64 300))), none, false⟩], []⟩
@[simp] def r3_10 : AReg := ⟨[], [], [
    ⟨some 45, .call 8 [] true, none, false⟩,
    ⟨some 2, .mv (.t 45), none, false⟩], []⟩
@[simp] def r3_11 : AReg := ⟨[0, 3, 4, 6], [], [
    ⟨some 47, .mv (.t 4), none, false⟩,
    ⟨some 48, .call 10 [((.t 47), true)] false, none, false⟩,
    ⟨some 46, .mv (.t 48), none, false⟩,
    ⟨some 49, .ext 0 (.t 46), none, false⟩,
    ⟨some 50, .ext 1 (.t 46), none, false⟩,
    ⟨some 51, .ext 2 (.t 46), none, false⟩,
    ⟨some 7, .mv (.t 49), none, false⟩,
    ⟨some 8, .mv (.t 50), none, false⟩,
    ⟨some 9, .mv (.t 51), none, false⟩], []⟩
@[simp] def r3_12 : AReg := ⟨[0, 3, 4, 6, 7, 8, 9], [], [
    ⟨some 53, .mv (.t 4), none, false⟩,
    ⟨some 54, .call 11 [((.t 53), true), ((.c (.dat (.int .i64 20))), false)] false, none, false⟩,
    ⟨some 52, .mv (.t 54), none, false⟩,
    ⟨some 55, .ext 0 (.t 52), none, false⟩,
    ⟨some 56, .ext 1 (.t 52), none, false⟩,
    ⟨some 10, .mv (.t 55), none, false⟩,
    ⟨some 11, .mv (.t 56), none, false⟩], []⟩
@[simp] def r3_13 : AReg := ⟨[0, 3, 4, 6, 7, 8, 9, 10, 11], [], [
    ⟨some 57, .mv (.t 9), none, false⟩,
    ⟨some 58, .bin .int .neq (.t 57) (.c (.dat (.int .i64 0))), none, false⟩,
    ⟨some 59, .mv (.t 58), none, false⟩,
    ⟨some 60, .mv (.t 11), some (59, false), false⟩,
    ⟨some 61, .un .not (.t 60), some (59, false), false⟩,
    ⟨some 62, .pick (.t 59) (.c (.dat (.bool true))) (.t 61), none, false⟩,
    ⟨some 63, .mv (.t 62), none, false⟩,
    ⟨some 64, .mv (.t 7), some (63, false), false⟩,
    ⟨some 65, .bin .ptr .eql (.t 64) (.c .nilp), some (63, false), false⟩,
    ⟨some 66, .pick (.t 63) (.c (.dat (.bool true))) (.t 65), none, false⟩,
    ⟨some 67, .mv (.t 66), none, false⟩,
    ⟨some 68, .mv (.t 8), some (67, false), false⟩,
    ⟨some 69, .mv (.t 3), some (67, false), false⟩,
    ⟨some 70, .call 12 [((.t 68), false), ((.t 69), true)] true, some (67, false), false⟩,
    ⟨some 71, .un .not (.t 70), some (67, false), false⟩,
    ⟨some 72, .pick (.t 67) (.c (.dat (.bool true))) (.t 71), none, false⟩], []⟩
@[simp] def r3_14 : AReg := ⟨[], [], [
    ⟨some 2, .mv (.c (.dat (.bool false))), none, false⟩], []⟩
@[simp] def r3_15 : AReg := ⟨[0, 3, 4, 6, 7, 10], [], [
    ⟨some 73, .mv (.t 7), none, false⟩,
    ⟨some 74, .mv (.t 0), none, false⟩,
    ⟨some 75, .mv (.t 6), none, false⟩,
    ⟨some 76, .iAddr 2 (.t 74) (.t 75), none, false⟩,
    ⟨some 77, .fAddr 0 (.t 76), none, false⟩,
    ⟨some 78, .ld 1 false (.t 77), none, false⟩,
    ⟨some 79, .call 13 [((.t 73), true), ((.t 78), false)] true, none, false⟩,
    ⟨some 80, .bin .int .neq (.t 79) (.c (.dat (.int .i64 0))), none, false⟩], []⟩
@[simp] def r3_16 : AReg := ⟨[], [], [
    ⟨some 81, .call 8 [] true, none, false⟩,
    ⟨some 2, .mv (.t 81), none, false⟩], []⟩
@[simp] def r3_17 : AReg := ⟨[0, 3, 4, 6, 10], [], [
    ⟨some 83, .mv (.t 4), none, false⟩,
    ⟨some 84, .call 11 [((.t 83), true), ((.c (.dat (.int .i64 20))), false)] false, none, false⟩,
    ⟨some 82, .mv (.t 84), none, false⟩,
    ⟨some 85, .ext 0 (.t 82), none, false⟩,
    ⟨some 86, .ext 1 (.t 82), none, false⟩,
    ⟨some 12, .mv (.t 85), none, false⟩,
    ⟨some 11, .mv (.t 86), none, false⟩], []⟩
@[simp] def r3_18 : AReg := ⟨[0, 3, 6, 10, 11, 12], [], [
    ⟨some 88, .call 9 [((.c (.dat (.int .i64 20))), false)] false, none, false⟩,
    ⟨some 87, .mv (.t 88), none, false⟩,
    ⟨some 89, .ext 0 (.t 87), none, false⟩,
    ⟨some 90, .ext 1 (.t 87), none, false⟩,
    ⟨some 13, .mv (.t 89), none, false⟩,
    ⟨some 14, .mv (.t 90), none, false⟩], []⟩
@[simp] def r3_19 : AReg := ⟨[0, 3, 6, 10, 11, 12, 13, 14], [], [
    ⟨some 91, .mv (.t 11), none, false⟩,
    ⟨some 92, .un .not (.t 91), none, false⟩,
    ⟨some 93, .mv (.t 92), none, false⟩,
    ⟨some 94, .mv (.t 14), some (93, false), false⟩,
    ⟨some 95, .bin .int .neq (.t 94) (.c (.dat (.int .i64 0))), some (93, false), false⟩,
    ⟨some 96, .pick (.t 93) (.c (.dat (.bool true))) (.t 95), none, false⟩], []⟩
@[simp] def r3_20 : AReg := ⟨[], [], [
    ⟨some 2, .mv (.c (.dat (.bool false))), none, false⟩], []⟩
@[simp] def r3_21 : AReg := ⟨[0, 3, 6, 10, 12, 13], [], [
    ⟨some 15, .mv (.c (.dat (.bool true))), none, false⟩,
    ⟨some 16, .mv (.c (.dat (.bool false))), none, false⟩], []⟩
@[simp] def r3_22 : AReg := ⟨[0, 3, 6, 10, 12, 13, 15, 16], [], [
    ⟨some 17, .mv (.c (.dat (.int .i64 0))), none, false⟩], []⟩
@[simp] def r3_23 : AReg := ⟨[0, 3, 6, 10, 12, 13, 15, 16, 17], [0, 3, 10, 12, 13], [
    ⟨some 97, .mv (.t 17), none, false⟩,
    ⟨some 98, .bin .int .lss (.t 97) (.c (.dat (.int .i64 20))), none, false⟩], []⟩
@[simp] def r3_24 : AReg := ⟨[0, 3, 6, 10, 12, 13, 15, 16, 17], [], [
    ⟨some 101, .mv (.t 12), none, false⟩,
    ⟨some 102, .mv (.t 17), none, false⟩,
    ⟨some 103, .iAddr 1 (.t 101) (.t 102), none, false⟩,
    ⟨some 104, .ld 1 false (.t 103), none, false⟩,
    ⟨some 18, .mv (.t 104), none, false⟩], []⟩
@[simp] def r3_25 : AReg := ⟨[0, 3, 6, 10, 12, 13, 15, 16, 17, 18], [], [
    ⟨some 105, .mv (.t 0), none, false⟩,
    ⟨some 106, .mv (.t 6), none, false⟩,
    ⟨some 107, .iAddr 2 (.t 105) (.t 106), none, false⟩,
    ⟨some 108, .fAddr 1 (.t 107), none, false⟩,
    ⟨some 109, .ld 1 false (.t 108), none, false⟩,
    ⟨some 110, .mv (.t 17), none, false⟩,
    ⟨some 111, .bin .int .shr (.t 109) (.t 110), none, false⟩,
    ⟨some 112, .bin .int .and (.t 111) (.c (.dat (.int .u32 1))), none, false⟩,
    ⟨some 113, .bin .int .eql (.t 112) (.c (.dat (.int .u32 0))), none, false⟩], []⟩
@[simp] def r3_26 : AReg := ⟨[0, 3, 6, 10, 12, 13, 15, 16, 17], [], [
    ⟨some 114, .mv (.t 10), none, false⟩,
    ⟨some 115, .mv (.t 17), none, false⟩,
    ⟨some 116, .iAddr 1 (.t 114) (.t 115), none, false⟩,
    ⟨some 117, .ld 1 false (.t 116), none, false⟩,
    ⟨some 18, .mv (.t 117), none, false⟩], []⟩
@[simp] def r3_27 : AReg := ⟨[0, 3, 6, 10, 12, 13, 15, 16, 17, 18], [], [
    ⟨some 118, .mv (.t 15), none, false⟩,
    ⟨some 119, .mv (.t 118), none, false⟩,
    ⟨some 120, .mv (.t 18), some (119, true), false⟩,
    ⟨some 121, .mv (.t 12), some (119, true), false⟩,
    ⟨some 122, .mv (.t 17), some (119, true), false⟩,
    ⟨some 123, .iAddr 1 (.t 121) (.t 122), some (119, true), false⟩,
    ⟨some 124, .ld 1 false (.t 123), some (119, true), false⟩,
    ⟨some 125, .call 14 [((.t 120), false), ((.t 124), false)] true, some (119, true), false⟩,
    ⟨some 126, .pick (.t 119) (.t 125) (.c (.dat (.bool false))), none, false⟩,
    ⟨some 15, .mv (.t 126), none, false⟩], []⟩
@[simp] def r3_28 : AReg := ⟨[0, 3, 6, 10, 12, 13, 15, 16, 17, 18], [], [
    ⟨some 127, .mv (.t 16), none, false⟩,
    ⟨some 128, .mv (.t 127), none, false⟩,
    ⟨some 129, .mv (.t 10), some (128, false), false⟩,
    ⟨some 130, .mv (.t 17), some (128, false), false⟩,
    ⟨some 131, .iAddr 1 (.t 129) (.t 130), some (128, false), false⟩,
    ⟨some 132, .ld 1 false (.t 131), some (128, false), false⟩,
    ⟨some 133, .mv (.t 12), some (128, false), false⟩,
    ⟨some 134, .mv (.t 17), some (128, false), false⟩,
    ⟨some 135, .iAddr 1 (.t 133) (.t 134), some (128, false), false⟩,
    ⟨some 136, .ld 1 false (.t 135), some (128, false), false⟩,
    ⟨some 137, .call 14 [((.t 132), false), ((.t 136), false)] true, some (128, false), false⟩,
    ⟨some 138, .un .not (.t 137), some (128, false), false⟩,
    ⟨some 139, .pick (.t 128) (.c (.dat (.bool true))) (.t 138), none, false⟩,
    ⟨some 16, .mv (.t 139), none, false⟩], []⟩
@[simp] def r3_29 : AReg := ⟨[0, 3, 6, 10, 12, 13, 15, 16, 17, 18], [], [
    ⟨some 140, .mv (.t 13), none, false⟩,
    ⟨some 141, .mv (.t 17), none, false⟩,
    ⟨some 142, .mv (.t 18), none, false⟩,
    ⟨some 143, .call 15 [((.t 140), true), ((.t 141), false), ((.t 142), false)] true, none, false⟩,
    ⟨some 144, .bin .int .neq (.t 143) (.c (.dat (.int .i64 0))), none, false⟩], []⟩
@[simp] def r3_30 : AReg := ⟨[], [], [
    ⟨some 2, .mv (.c (.dat (.bool false))), none, false⟩], []⟩
@[simp] def r3_31 : AReg := ⟨[0, 3, 6, 10, 12, 13, 15, 16, 17], [], [
    ⟨some 99, .mv (.t 17), none, false⟩,
    ⟨some 100, .bin .int .add (.t 99) (.c (.dat (.int .i64 1))), none, false⟩,
    ⟨some 17, .mv (.t 100), none, false⟩], []⟩
def l3_0 : AC := .seq (.seq (.reg r3_23) (.cond (.t 98) (.skip) (.exit 2))) (.seq (.block 3 (.seq (.reg r3_24) (.seq (.seq (.reg r3_25) (.cond (.t 113) (.reg r3_26) (.skip))) (.seq (.reg r3_27) (.seq (.reg r3_28) (.seq (.reg r3_29) (.cond (.t 144) (.seq (.reg r3_30) (.ret)) (.skip)))))))) (.reg r3_31))
@[simp] theorem l3_0e (K : Orc) (s : St) : exec K l3_0 s = exec K (.seq (.seq (.reg r3_23) (.cond (.t 98) (.skip) (.exit 2))) (.seq (.block 3 (.seq (.reg r3_24) (.seq (.seq (.reg r3_25) (.cond (.t 113) (.reg r3_26) (.skip))) (.seq (.reg r3_27) (.seq (.reg r3_28) (.seq (.reg r3_29) (.cond (.t 144) (.seq (.reg r3_30) (.ret)) (.skip)))))))) (.reg r3_31))) s := rfl
@[simp] def r3_32 : AReg := ⟨[0, 3, 6, 13, 15, 16], [], [
    ⟨some 145, .mv (.t 16), none, false⟩,
    ⟨some 146, .un .not (.t 145), none, false⟩,
    ⟨some 147, .mv (.t 146), none, false⟩,
    ⟨some 148, .mv (.t 13), some (147, false), false⟩,
    ⟨some 149, .call 16 [((.t 148), true)] true, some (147, false), false⟩,
    ⟨some 150, .bin .int .neq (.t 149) (.c (.dat (.int .i64 0))), some (147, false), false⟩,
    ⟨some 151, .pick (.t 147) (.c (.dat (.bool true))) (.t 150), none, false⟩], []⟩
@[simp] def r3_33 : AReg := ⟨[], [], [
    ⟨some 2, .mv (.c (.dat (.bool false))), none, false⟩], []⟩
@[simp] def r3_34 : AReg := ⟨[0, 3, 6, 13, 15], [], [
    ⟨some 152, .mv (.t 15), none, false⟩], []⟩
@[simp] def r3_35 : AReg := ⟨[0, 3, 6, 13], [], [
    ⟨some 153, .mv (.t 3), none, false⟩,
    ⟨some 154, .mv (.t 0), none, false⟩,
    ⟨some 155, .mv (.t 6), none, false⟩,
    ⟨some 156, .iAddr 2 (.t 154) (.t 155), none, false⟩,
    ⟨some 157, .fAddr 0 (.t 156), none, false⟩,
    ⟨some 158, .ld 1 false (.t 157), none, false⟩,
    ⟨some 159, .bldS .d 1 [(.t 158)], none, false⟩,
    ⟨some 160, .app .o 1 24 (.t 153) (.t 159), none, false⟩,
    ⟨some 3, .mv (.t 160), none, false⟩], []⟩
@[simp] def r3_36 : AReg := ⟨[0, 3, 6, 13], [], [
    ⟨some 161, .mv (.t 13), none, false⟩,
    ⟨some 4, .mv (.t 161), none, false⟩], []⟩
@[simp] def r3_37 : AReg := ⟨[0, 3, 4, 6], [], [
    ⟨some 36, .mv (.t 6), none, false⟩,
    ⟨some 37, .bin .int .add (.t 36) (.c (.dat (.int .i64 1))), none, false⟩,
    ⟨some 6, .mv (.t 37), none, false⟩], []⟩
def l3_1 : AC := .seq (.seq (.reg r3_8) (.cond (.t 35) (.skip) (.exit 0))) (.seq (.block 1 (.seq (.seq (.reg r3_9) (.cond (.t 44) (.seq (.reg r3_10) (.ret)) (.skip))) (.seq (.reg r3_11) (.seq (.reg r3_12) (.seq (.seq (.reg r3_13) (.cond (.t 72) (.seq (.reg r3_14) (.ret)) (.skip))) (.seq (.seq (.reg r3_15) (.cond (.t 80) (.seq (.reg r3_16) (.ret)) (.skip))) (.seq (.reg r3_17) (.seq (.reg r3_18) (.seq (.seq (.reg r3_19) (.cond (.t 96) (.seq (.reg r3_20) (.ret)) (.skip))) (.seq (.reg r3_21) (.seq (.seq (.reg r3_22) (.block 2 (.loop l3_0))) (.seq (.seq (.reg r3_32) (.cond (.t 151) (.seq (.reg r3_33) (.ret)) (.skip))) (.seq (.seq (.reg r3_34) (.cond (.t 152) (.reg r3_35) (.skip))) (.reg r3_36)))))))))))))) (.reg r3_37))
@[simp] theorem l3_1e (K : Orc) (s : St) : exec K l3_1 s = exec K (.seq (.seq (.reg r3_8) (.cond (.t 35) (.skip) (.exit 0))) (.seq (.block 1 (.seq (.seq (.reg r3_9) (.cond (.t 44) (.seq (.reg r3_10) (.ret)) (.skip))) (.seq (.reg r3_11) (.seq (.reg r3_12) (.seq (.seq (.reg r3_13) (.cond (.t 72) (.seq (.reg r3_14) (.ret)) (.skip))) (.seq (.seq (.reg r3_15) (.cond (.t 80) (.seq (.reg r3_16) (.ret)) (.skip))) (.seq (.reg r3_17) (.seq (.reg r3_18) (.seq (.seq (.reg r3_19) (.cond (.t 96) (.seq (.reg r3_20) (.ret)) (.skip))) (.seq (.reg r3_21) (.seq (.seq (.reg r3_22) (.block 2 (.loop l3_0))) (.seq (.seq (.reg r3_32) (.cond (.t 151) (.seq (.reg r3_33) (.ret)) (.skip))) (.seq (.seq (.reg r3_34) (.cond (.t 152) (.reg r3_35) (.skip))) (.reg r3_36)))))))))))))) (.reg r3_37))) s := rfl
@[simp] def r3_38 : AReg := ⟨[3, 4], [], [
    ⟨some 163, .mv (.t 4), none, false⟩,
    ⟨some 164, .call 10 [((.t 163), true)] false, none, false⟩,
    ⟨some 162, .mv (.t 164), none, false⟩,
    ⟨some 165, .ext 0 (.t 162), none, false⟩,
    ⟨some 166, .ext 1 (.t 162), none, false⟩,
    ⟨some 167, .ext 2 (.t 162), none, false⟩,
    ⟨some 19, .mv (.t 165), none, false⟩,
    ⟨some 20, .mv (.t 166), none, false⟩,
    ⟨some 21, .mv (.t 167), none, false⟩], []⟩
@[simp] def r3_39 : AReg := ⟨[3, 20, 21], [], [
    ⟨some 168, .mv (.t 21), none, false⟩,
    ⟨some 169, .bin .int .eql (.t 168) (.c (.dat (.int .i64 0))), none, false⟩,
    ⟨some 170, .mv (.t 169), none, false⟩,
    ⟨some 171, .mv (.t 20), some (170, true), false⟩,
    ⟨some 172, .mv (.t 3), some (170, true), false⟩,
    ⟨some 173, .call 12 [((.t 171), false), ((.t 172), true)] true, some (170, true), false⟩,
    ⟨some 174, .pick (.t 170) (.t 173) (.c (.dat (.bool false))), none, false⟩,
    ⟨some 175, .mv (.t 174), none, false⟩,
    ⟨some 176, .call 8 [] true, some (175, true), false⟩,
    ⟨some 177, .pick (.t 175) (.t 176) (.c (.dat (.bool false))), none, false⟩,
    ⟨some 2, .mv (.t 177), none, false⟩], []⟩
@[simp] def fn3 : AFun := ⟨1, [2], false,
  .seq (.reg r3_0) (.seq (.seq (.reg r3_1) (.cond (.t 24) (.seq (.reg r3_2) (.ret)) (.skip))) (.seq (.reg r3_3) (.seq (.reg r3_4) (.seq (.seq (.reg r3_5) (.cond (.t 31) (.seq (.reg r3_6) (.ret)) (.skip))) (.seq (.seq (.reg r3_7) (.block 0 (.loop l3_1))) (.seq (.reg r3_38) (.seq (.reg r3_39) (.ret)))))))), none⟩

theorem c3 : cFun Try.prog ann3 false 3 = some fn3 := by kernel_rfl

/-! 4: modelcheck/modelchecklaw50.JournalDisks -/

def ann4 : Ann := [{ id := 0, live := [0, 1] },
  { id := 1, live := [0, 1] },
  { id := 2, live := [] },
  { id := 3, live := [0, 1] },
  { id := 4, live := [0, 1, 5, 6] },
  { id := 5, live := [1, 5, 6, 7, 8] },
  { id := 6, live := [] },
  { id := 7, live := [1, 5, 7] },
  { id := 8, live := [1, 5, 7, 9], drop := [1, 5, 7] },
  { id := 10, live := [1, 5, 7, 9] },
  { id := 11, live := [1, 5, 7, 9, 10] },
  { id := 12, live := [1, 5, 7, 9, 10, 52] },
  { id := 13, live := [1, 5, 7, 9, 10] },
  { id := 14, live := [1, 5, 7, 9, 10, 11] },
  { id := 15, live := [1, 5, 7, 9, 10, 11] },
  { id := 16, live := [1, 5, 7, 9, 10, 11], marks := [(4, { byRef := [0] }), (9, { byRef := [0] })] },
  { id := 17, live := [] },
  { id := 18, live := [1, 5, 7, 9, 10, 52] },
  { id := 19, live := [1, 5, 7, 9, 10], marks := [(1, { byRef := [0] }), (3, { byRef := [0] })] },
  { id := 20, live := [] },
  { id := 21, live := [1, 5, 7, 9, 10, 52] },
  { id := 22, live := [1, 5, 7, 9, 10], marks := [(3, { byRef := [0] }), (7, { byRef := [0] })] },
  { id := 23, live := [] },
  { id := 24, live := [1, 5, 7, 9, 10], marks := [(3, { byRef := [0] })] },
  { id := 25, live := [1, 5, 7, 9, 10, 12, 13], marks := [(3, { byRef := [0] })] },
  { id := 26, live := [1, 5, 7, 9, 12, 13, 14, 15], marks := [(11, { byRef := [0] }), (13, { byRef := [0] })] },
  { id := 27, live := [] },
  { id := 9, live := [1, 5, 7, 9] },
  { id := 28, live := [] }]

@[simp] def r4_0 : AReg := ⟨[0, 1], [], [
    ⟨some 4, .mv (.c (.dat (.bool false))), none, false⟩], []⟩
@[simp] def r4_1 : AReg := ⟨[0, 1], [], [
    ⟨some 16, .mv (.t 1), none, false⟩,
    ⟨some 17, .mv (.t 0), none, false⟩,
    ⟨some 18, .call 17 [((.t 16), false), ((.t 17), false)] true, none, false⟩,
    ⟨some 19, .un .not (.t 18), none, false⟩], []⟩
@[simp] def r4_2 : AReg := ⟨[], [], [
    ⟨some 20, .call 8 [] true, none, false⟩,
    ⟨some 4, .mv (.t 20), none, false⟩], []⟩
@[simp] def r4_3 : AReg := ⟨[0, 1], [], [
    ⟨some 22, .mv (.t 0), none, false⟩,
    ⟨some 23, .call 9 [((.t 22), false)] false, none, false⟩,
    ⟨some 21, .mv (.t 23), none, false⟩,
    ⟨some 24, .ext 0 (.t 21), none, false⟩,
    ⟨some 25, .ext 1 (.t 21), none, false⟩,
    ⟨some 5, .mv (.t 24), none, false⟩,
    ⟨some 6, .mv (.t 25), none, false⟩], []⟩
@[simp] def r4_4 : AReg := ⟨[0, 1, 5, 6], [], [
    ⟨some 27, .mv (.t 0), none, false⟩,
    ⟨some 28, .call 18 [((.t 27), false)] false, none, false⟩,
    ⟨some 26, .mv (.t 28), none, false⟩,
    ⟨some 29, .ext 0 (.t 26), none, false⟩,
    ⟨some 30, .ext 1 (.t 26), none, false⟩,
    ⟨some 7, .mv (.t 29), none, false⟩,
    ⟨some 8, .mv (.t 30), none, false⟩], []⟩
@[simp] def r4_5 : AReg := ⟨[1, 5, 6, 7, 8], [], [
    ⟨some 31, .mv (.t 6), none, false⟩,
    ⟨some 32, .mv (.t 8), none, false⟩,
    ⟨some 33, .bin .int .neq (.t 31) (.t 32), none, false⟩,
    ⟨some 34, .mv (.t 33), none, false⟩,
    ⟨some 35, .mv (.t 5), some (34, false), false⟩,
    ⟨some 36, .bin .ptr .eql (.t 35) (.c .nilp), some (34, false), false⟩,
    ⟨some 37, .mv (.t 7), some (34, false), false⟩,
    ⟨some 38, .bin .ptr .eql (.t 37) (.c .nilp), some (34, false), false⟩,
    ⟨some 39, .bin .bool .neq (.t 36) (.t 38), some (34, false), false⟩,
    ⟨some 40, .pick (.t 34) (.c (.dat (.bool true))) (.t 39), none, false⟩], []⟩
@[simp] def r4_6 : AReg := ⟨[], [], [
    ⟨some 4, .mv (.c (.dat (.bool false))), none, false⟩], []⟩
@[simp] def r4_7 : AReg := ⟨[1, 5, 7], [], [
    ⟨some 9, .mv (.c (.dat (.int .i64 0))), none, false⟩], []⟩
@[simp] def r4_8 : AReg := ⟨[1, 5, 7, 9], [1, 5, 7], [
    ⟨some 41, .mv (.t 9), none, false⟩,
    ⟨some 42, .mv (.t 1), none, false⟩,
    ⟨some 43, .len false (.t 42), none, false⟩,
    ⟨some 44, .bin .int .lss (.t 41) (.t 43), none, false⟩], []⟩
@[simp] def r4_9 : AReg := ⟨[1, 5, 7, 9], [], [
    ⟨some 47, .mv (.t 1), none, false⟩,
    ⟨some 48, .mv (.t 9), none, false⟩,
    ⟨some 49, .iAddr 4 (.t 47) (.t 48), none, false⟩,
    ⟨some 50, .ld 4 true (.t 49), none, false⟩,
    ⟨some 10, .alc [(.dat (.int .i64 0)), (.dat (.int .i64 0)), .nils, .nils], none, false⟩,
    ⟨none, .st 4 (.t 10) (.t 50), none, false⟩], []⟩
@[simp] def r4_10 : AReg := ⟨[1, 5, 7, 9, 10], [], [
    ⟨some 51, .fAddr 0 (.t 10), none, false⟩,
    ⟨some 52, .ld 1 false (.t 51), none, false⟩], []⟩
@[simp] def r4_11 : AReg := ⟨[1, 5, 7, 9, 10, 52], [], [
    ⟨some 54, .bin .int .eql (.t 52) (.c (.dat (.int .i64 0))), none, false⟩,
    ⟨some 53, .mv (.t 54), none, false⟩], []⟩
@[simp] def r4_12 : AReg := ⟨[1, 5, 7, 9, 10], [], [
    ⟨some 55, .fAddr 2 (.t 10), none, false⟩,
    ⟨some 56, .ld 1 false (.t 55), none, false⟩,
    ⟨some 11, .mv (.t 56), none, false⟩], []⟩
@[simp] def r4_13 : AReg := ⟨[1, 5, 7, 9, 10, 11], [], [
    ⟨some 57, .mv (.t 11), none, false⟩,
    ⟨some 58, .len false (.t 57), none, false⟩,
    ⟨some 59, .bin .int .neq (.t 58) (.c (.dat (.int .i64 3))), none, false⟩], []⟩
@[simp] def r4_14 : AReg := ⟨[1, 5, 7, 9, 10, 11], [], [
    ⟨some 60, .mv (.t 11), none, false⟩,
    ⟨some 61, .call 19 [((.t 60), false)] false, none, false⟩,
    ⟨some 11, .mv (.t 61), none, false⟩], []⟩
@[simp] def r4_15 : AReg := ⟨[1, 5, 7, 9, 10, 11], [], [
    ⟨some 62, .mv (.t 5), none, false⟩,
    ⟨some 63, .fAddr 1 (.t 10), none, false⟩,
    ⟨some 64, .ld 1 false (.t 63), none, false⟩,
    ⟨some 65, .mv (.t 11), none, false⟩,
    ⟨some 66, .call 15 [((.t 62), true), ((.t 64), false), ((.t 65), false)] true, none, true⟩,
    ⟨some 67, .mv (.t 7), none, false⟩,
    ⟨some 68, .fAddr 1 (.t 10), none, false⟩,
    ⟨some 69, .ld 1 false (.t 68), none, true⟩,
    ⟨some 70, .mv (.t 11), none, false⟩,
    ⟨some 71, .call 20 [((.t 67), true), ((.t 69), false), ((.t 70), false)] true, none, false⟩,
    ⟨some 72, .bin .int .neq (.t 66) (.t 71), none, false⟩], [(4, 7)]⟩
@[simp] def r4_16 : AReg := ⟨[], [], [
    ⟨some 4, .mv (.c (.dat (.bool false))), none, false⟩], []⟩
@[simp] def r4_17 : AReg := ⟨[1, 5, 7, 9, 10, 52], [], [
    ⟨some 74, .bin .int .eql (.t 52) (.c (.dat (.int .i64 2))), none, false⟩,
    ⟨some 73, .mv (.t 74), none, false⟩], []⟩
@[simp] def r4_18 : AReg := ⟨[1, 5, 7, 9, 10], [], [
    ⟨some 75, .mv (.t 5), none, false⟩,
    ⟨some 76, .call 16 [((.t 75), true)] true, none, false⟩,
    ⟨some 77, .mv (.t 7), none, false⟩,
    ⟨some 78, .call 21 [((.t 77), true)] true, none, false⟩,
    ⟨some 79, .bin .int .neq (.t 76) (.t 78), none, false⟩], []⟩
@[simp] def r4_19 : AReg := ⟨[], [], [
    ⟨some 4, .mv (.c (.dat (.bool false))), none, false⟩], []⟩
@[simp] def r4_20 : AReg := ⟨[1, 5, 7, 9, 10, 52], [], [
    ⟨some 81, .bin .int .eql (.t 52) (.c (.dat (.int .i64 3))), none, false⟩,
    ⟨some 80, .mv (.t 81), none, false⟩], []⟩
@[simp] def r4_21 : AReg := ⟨[1, 5, 7, 9, 10], [], [
    ⟨some 82, .mv (.t 5), none, false⟩,
    ⟨some 83, .fAddr 3 (.t 10), none, false⟩,
    ⟨some 84, .ld 1 false (.t 83), none, false⟩,
    ⟨some 85, .call 22 [((.t 82), true), ((.t 84), false)] true, none, true⟩,
    ⟨some 86, .mv (.t 7), none, false⟩,
    ⟨some 87, .fAddr 3 (.t 10), none, false⟩,
    ⟨some 88, .ld 1 false (.t 87), none, true⟩,
    ⟨some 89, .call 23 [((.t 86), true), ((.t 88), false)] true, none, false⟩,
    ⟨some 90, .bin .int .neq (.t 85) (.t 89), none, false⟩], [(3, 6)]⟩
@[simp] def r4_22 : AReg := ⟨[], [], [
    ⟨some 4, .mv (.c (.dat (.bool false))), none, false⟩], []⟩
@[simp] def r4_23 : AReg := ⟨[1, 5, 7, 9, 10], [], [
    ⟨some 92, .mv (.t 5), none, false⟩,
    ⟨some 93, .fAddr 1 (.t 10), none, false⟩,
    ⟨some 94, .ld 1 false (.t 93), none, false⟩,
    ⟨some 95, .call 24 [((.t 92), true), ((.t 94), false)] false, none, false⟩,
    ⟨some 91, .mv (.t 95), none, false⟩,
    ⟨some 96, .ext 0 (.t 91), none, false⟩,
    ⟨some 97, .ext 1 (.t 91), none, false⟩,
    ⟨some 12, .mv (.t 96), none, false⟩,
    ⟨some 13, .mv (.t 97), none, false⟩], []⟩
@[simp] def r4_24 : AReg := ⟨[1, 5, 7, 9, 10, 12, 13], [], [
    ⟨some 99, .mv (.t 7), none, false⟩,
    ⟨some 100, .fAddr 1 (.t 10), none, false⟩,
    ⟨some 101, .ld 1 false (.t 100), none, false⟩,
    ⟨some 102, .call 25 [((.t 99), true), ((.t 101), false)] false, none, false⟩,
    ⟨some 98, .mv (.t 102), none, false⟩,
    ⟨some 103, .ext 0 (.t 98), none, false⟩,
    ⟨some 104, .ext 1 (.t 98), none, false⟩,
    ⟨some 14, .mv (.t 103), none, false⟩,
    ⟨some 15, .mv (.t 104), none, false⟩], []⟩
@[simp] def r4_25 : AReg := ⟨[1, 5, 7, 9, 12, 13, 14, 15], [], [
    ⟨some 105, .mv (.t 13), none, false⟩,
    ⟨some 106, .mv (.t 15), none, false⟩,
    ⟨some 107, .bin .int .neq (.t 105) (.t 106), none, false⟩,
    ⟨some 108, .mv (.t 107), none, false⟩,
    ⟨some 109, .mv (.t 12), some (108, false), false⟩,
    ⟨some 110, .mv (.t 14), some (108, false), false⟩,
    ⟨some 111, .call 14 [((.t 109), false), ((.t 110), false)] true, some (108, false), false⟩,
    ⟨some 112, .un .not (.t 111), some (108, false), false⟩,
    ⟨some 113, .pick (.t 108) (.c (.dat (.bool true))) (.t 112), none, false⟩,
    ⟨some 114, .mv (.t 113), none, false⟩,
    ⟨some 115, .mv (.t 5), some (114, false), false⟩,
    ⟨some 116, .call 26 [((.t 115), true)] true, some (114, false), false⟩,
    ⟨some 117, .mv (.t 7), some (114, false), false⟩,
    ⟨some 118, .call 27 [((.t 117), true)] true, some (114, false), false⟩,
    ⟨some 119, .bin .int .neq (.t 116) (.t 118), some (114, false), false⟩,
    ⟨some 120, .pick (.t 114) (.c (.dat (.bool true))) (.t 119), none, false⟩], []⟩
@[simp] def r4_26 : AReg := ⟨[], [], [
    ⟨some 4, .mv (.c (.dat (.bool false))), none, false⟩], []⟩
@[simp] def r4_27 : AReg := ⟨[1, 5, 7, 9], [], [
    ⟨some 45, .mv (.t 9), none, false⟩,
    ⟨some 46, .bin .int .add (.t 45) (.c (.dat (.int .i64 1))), none, false⟩,
    ⟨some 9, .mv (.t 46), none, false⟩], []⟩
def l4_0 : AC := .seq (.seq (.reg r4_8) (.cond (.t 44) (.skip) (.exit 0))) (.seq (.block 1 (.seq (.reg r4_9) (.seq (.seq (.reg r4_10) (.block 2 (.seq (.reg r4_11) (.cond (.t 53) (.seq (.reg r4_12) (.seq (.seq (.reg r4_13) (.cond (.t 59) (.reg r4_14) (.skip))) (.seq (.reg r4_15) (.cond (.t 72) (.seq (.reg r4_16) (.ret)) (.skip))))) (.seq (.reg r4_17) (.cond (.t 73) (.seq (.reg r4_18) (.cond (.t 79) (.seq (.reg r4_19) (.ret)) (.skip))) (.seq (.reg r4_20) (.cond (.t 80) (.seq (.reg r4_21) (.cond (.t 90) (.seq (.reg r4_22) (.ret)) (.skip))) (.skip))))))))) (.seq (.reg r4_23) (.seq (.reg r4_24) (.seq (.reg r4_25) (.cond (.t 120) (.seq (.reg r4_26) (.ret)) (.skip)))))))) (.reg r4_27))
@[simp] theorem l4_0e (K : Orc) (s : St) : exec K l4_0 s = exec K (.seq (.seq (.reg r4_8) (.cond (.t 44) (.skip) (.exit 0))) (.seq (.block 1 (.seq (.reg r4_9) (.seq (.seq (.reg r4_10) (.block 2 (.seq (.reg r4_11) (.cond (.t 53) (.seq (.reg r4_12) (.seq (.seq (.reg r4_13) (.cond (.t 59) (.reg r4_14) (.skip))) (.seq (.reg r4_15) (.cond (.t 72) (.seq (.reg r4_16) (.ret)) (.skip))))) (.seq (.reg r4_17) (.cond (.t 73) (.seq (.reg r4_18) (.cond (.t 79) (.seq (.reg r4_19) (.ret)) (.skip))) (.seq (.reg r4_20) (.cond (.t 80) (.seq (.reg r4_21) (.cond (.t 90) (.seq (.reg r4_22) (.ret)) (.skip))) (.skip))))))))) (.seq (.reg r4_23) (.seq (.reg r4_24) (.seq (.reg r4_25) (.cond (.t 120) (.seq (.reg r4_26) (.ret)) (.skip)))))))) (.reg r4_27))) s := rfl
@[simp] def r4_28 : AReg := ⟨[], [], [
    ⟨some 121, .call 8 [] true, none, false⟩,
    ⟨some 4, .mv (.t 121), none, false⟩], []⟩
@[simp] def fn4 : AFun := ⟨2, [4], false,
  .seq (.reg r4_0) (.seq (.seq (.reg r4_1) (.cond (.t 19) (.seq (.reg r4_2) (.ret)) (.skip))) (.seq (.reg r4_3) (.seq (.reg r4_4) (.seq (.seq (.reg r4_5) (.cond (.t 40) (.seq (.reg r4_6) (.ret)) (.skip))) (.seq (.seq (.reg r4_7) (.block 0 (.loop l4_0))) (.seq (.reg r4_28) (.ret))))))), none⟩

theorem c4 : cFun Try.prog ann4 false 4 = some fn4 := by kernel_rfl

/-! 5: modelcheck/modelchecklaw50.JournalActs -/

def ann5 : Ann := [{ id := 0, live := [0, 1] },
  { id := 1, live := [0, 1] },
  { id := 2, live := [] },
  { id := 3, live := [0, 1] },
  { id := 4, live := [0, 1, 5, 6] },
  { id := 5, live := [0, 1, 5, 6, 7] },
  { id := 6, live := [] },
  { id := 7, live := [0, 1, 5, 7], marks := [(0, { md := .r })] },
  { id := 8, live := [0, 1, 5, 7, 9], marks := [(0, { md := .r })] },
  { id := 9, live := [0, 1, 5, 7, 9, 10] },
  { id := 10, live := [0, 1, 5, 7, 9, 10, 11], drop := [1000000, 1000, 9, 10, 5, 7] },
  { id := 12, live := [0, 1, 5, 7, 9, 10, 11] },
  { id := 13, live := [0, 1, 5, 7, 9, 10, 11, 12] },
  { id := 14, live := [0, 1, 5, 7, 9, 10, 11, 12, 13] },
  { id := 15, live := [0, 1, 5, 7, 9, 10, 11, 12, 13, 14] },
  { id := 17, live := [0, 1, 5, 7, 9, 10, 11, 12, 14] },
  { id := 16, live := [0, 1, 5, 7, 9, 10, 11, 12, 13, 14] },
  { id := 18, live := [0, 1, 5, 7, 9, 10, 11, 12, 13] },
  { id := 19, live := [0, 1, 5, 7, 9, 10, 11, 12, 13, 79] },
  { id := 20, live := [0, 1, 5, 7, 9, 10, 11, 12, 13], marks := [(6, { byRef := [0] })] },
  { id := 21, live := [0, 1, 5, 7, 9, 10, 11, 12, 13], marks := [(6, { byRef := [0] })] },
  { id := 22, live := [0, 1, 5, 7, 9, 10, 11, 12, 13, 79] },
  { id := 23, live := [0, 1, 5, 7, 9, 10, 11, 13], marks := [(1, { byRef := [0] })] },
  { id := 24, live := [0, 1, 5, 7, 9, 10, 11, 13], marks := [(1, { byRef := [0] })] },
  { id := 25, live := [0, 1, 5, 7, 9, 10, 11, 12, 13, 79] },
  { id := 26, live := [0, 1, 5, 7, 9, 10, 11, 12, 13], marks := [(3, { byRef := [0] }), (7, { byRef := [0] })] },
  { id := 27, live := [] },
  { id := 28, live := [0, 1, 5, 7, 9, 10, 11, 12, 13, 79] },
  { id := 29, live := [0, 1, 5, 7, 9, 10, 11, 13], marks := [(1, { byRef := [0] })] },
  { id := 30, live := [0, 1, 5, 7, 9, 10, 11, 13, 15, 16, 17], marks := [(1, { byRef := [0] })] },
  { id := 31, live := [0, 1, 5, 7, 9, 10, 11, 13, 15, 16, 17, 18, 19, 20] },
  { id := 32, live := [] },
  { id := 33, live := [0, 1, 5, 7, 9, 10, 11, 13, 15, 18], marks := [(2, { md := .r }), (3, { md := .r })] },
  { id := 34, live := [0, 1, 5, 7, 9, 10, 11, 13, 18], marks := [(2, { md := .r }), (3, { md := .r })] },
  { id := 35, live := [0, 1, 5, 7, 9, 10, 11, 12, 13, 79] },
  { id := 36, live := [0, 1, 5, 7, 9, 10, 11, 12, 13], marks := [(9, { byRef := [0] }), (16, { byRef := [0] })] },
  { id := 37, live := [] },
  { id := 38, live := [0, 1, 5, 7, 9, 10, 11, 13], drop := [1000000, 1000, 9, 10, 5, 7] },
  { id := 39, live := [0, 1, 5, 7, 9, 10, 11, 13], marks := [(4, { byRef := [0] })] },
  { id := 40, live := [0, 1, 5, 7, 9, 10, 11, 13, 21, 22], marks := [(4, { byRef := [0] })] },
  { id := 41, live := [0, 1, 5, 7, 9, 10, 11, 13, 21, 22, 23, 24], marks := [(14, { byRef := [0] }), (19, { byRef := [0] })] },
  { id := 42, live := [] },
  { id := 11, live := [0, 1, 5, 7, 9, 10, 11] },
  { id := 43, live := [0, 5, 7] },
  { id := 44, live := [0, 5, 7, 25], drop := [5, 7] },
  { id := 46, live := [0, 5, 7, 25], marks := [(2, { byRef := [0] })] },
  { id := 47, live := [0, 5, 7, 25, 26, 27], marks := [(2, { byRef := [0] })] },
  { id := 48, live := [0, 5, 7, 25, 26, 27, 28] },
  { id := 49, live := [] },
  { id := 45, live := [0, 5, 7, 25] },
  { id := 50, live := [] }]

@[simp] def r5_0 : AReg := ⟨[0, 1], [], [
    ⟨some 4, .mv (.c (.dat (.bool false))), none, false⟩], []⟩
@[simp] def r5_1 : AReg := ⟨[0, 1], [], [
    ⟨some 30, .mv (.t 1), none, false⟩,
    ⟨some 31, .mv (.t 0), none, false⟩,
    ⟨some 32, .call 17 [((.t 30), false), ((.t 31), false)] true, none, false⟩,
    ⟨some 33, .un .not (.t 32), none, false⟩,
    ⟨some 34, .mv (.t 33), none, false⟩,
    ⟨some 35, .mv (.t 0), some (34, false), false⟩,
    ⟨some 36, .bin .int .lss (.t 35) (.c (.dat (.int .i64 1))), some (34, false), false⟩,
    ⟨some 37, .pick (.t 34) (.c (.dat (.bool true))) (.t 36), none, false⟩], []⟩
@[simp] def r5_2 : AReg := ⟨[], [], [
    ⟨some 38, .call 8 [] true, none, false⟩,
    ⟨some 4, .mv (.t 38), none, false⟩], []⟩
@[simp] def r5_3 : AReg := ⟨[0, 1], [], [
    ⟨some 40, .mv (.t 0), none, false⟩,
    ⟨some 41, .call 9 [((.t 40), false)] false, none, false⟩,
    ⟨some 39, .mv (.t 41), none, false⟩,
    ⟨some 42, .ext 0 (.t 39), none, false⟩,
    ⟨some 43, .ext 1 (.t 39), none, false⟩,
    ⟨some 5, .mv (.t 42), none, false⟩,
    ⟨some 6, .mv (.t 43), none, false⟩], []⟩
@[simp] def r5_4 : AReg := ⟨[0, 1, 5, 6], [], [
    ⟨some 45, .mv (.t 0), none, false⟩,
    ⟨some 46, .call 18 [((.t 45), false)] false, none, false⟩,
    ⟨some 44, .mv (.t 46), none, false⟩,
    ⟨some 47, .ext 0 (.t 44), none, false⟩,
    ⟨some 48, .ext 1 (.t 44), none, false⟩,
    ⟨some 7, .mv (.t 47), none, false⟩,
    ⟨some 8, .mv (.t 48), none, false⟩], []⟩
@[simp] def r5_5 : AReg := ⟨[0, 1, 5, 6, 7], [], [
    ⟨some 49, .mv (.t 6), none, false⟩,
    ⟨some 50, .bin .int .neq (.t 49) (.c (.dat (.int .i64 0))), none, false⟩,
    ⟨some 51, .mv (.t 50), none, false⟩,
    ⟨some 52, .mv (.t 5), some (51, false), false⟩,
    ⟨some 53, .bin .ptr .eql (.t 52) (.c .nilp), some (51, false), false⟩,
    ⟨some 54, .pick (.t 51) (.c (.dat (.bool true))) (.t 53), none, false⟩], []⟩
@[simp] def r5_6 : AReg := ⟨[], [], [
    ⟨some 4, .mv (.c (.dat (.bool false))), none, false⟩], []⟩
@[simp] def r5_7 : AReg := ⟨[0, 1, 5, 7], [], [
    ⟨some 9, .mvNil .r 1, none, false⟩], []⟩
@[simp] def r5_8 : AReg := ⟨[0, 1, 5, 7, 9], [], [
    ⟨some 10, .mvNil .r 1, none, false⟩], []⟩
@[simp] def r5_9 : AReg := ⟨[0, 1, 5, 7, 9, 10], [], [
    ⟨some 11, .mv (.c (.dat (.int .i64 0))), none, false⟩], []⟩
@[simp] def r5_10 : AReg := ⟨[0, 1, 5, 7, 9, 10, 11], [1000000, 1000, 9, 10, 5, 7], [
    ⟨some 55, .mv (.t 11), none, false⟩,
    ⟨some 56, .mv (.t 1), none, false⟩,
    ⟨some 57, .len false (.t 56), none, false⟩,
    ⟨some 58, .bin .int .lss (.t 55) (.t 57), none, false⟩], []⟩
@[simp] def r5_11 : AReg := ⟨[0, 1, 5, 7, 9, 10, 11], [], [
    ⟨some 61, .mv (.t 1), none, false⟩,
    ⟨some 62, .mv (.t 11), none, false⟩,
    ⟨some 63, .iAddr 4 (.t 61) (.t 62), none, false⟩,
    ⟨some 64, .ld 4 true (.t 63), none, false⟩,
    ⟨some 12, .alc [(.dat (.int .i64 0)), (.dat (.int .i64 0)), .nils, .nils], none, false⟩,
    ⟨none, .st 4 (.t 12) (.t 64), none, false⟩], []⟩
@[simp] def r5_12 : AReg := ⟨[0, 1, 5, 7, 9, 10, 11, 12], [], [
    ⟨some 13, .mv (.c (.dat (.int .i64 (-1)))), none, false⟩], []⟩
@[simp] def r5_13 : AReg := ⟨[0, 1, 5, 7, 9, 10, 11, 12, 13], [], [
    ⟨some 14, .mv (.c (.dat (.int .i64 0))), none, false⟩], []⟩
@[simp] def r5_14 : AReg := ⟨[0, 1, 5, 7, 9, 10, 11, 12, 13, 14], [], [
    ⟨some 65, .mv (.t 14), none, false⟩,
    ⟨some 66, .mv (.t 9), none, false⟩,
    ⟨some 67, .len false (.t 66), none, false⟩,
    ⟨some 68, .bin .int .lss (.t 65) (.t 67), none, false⟩,
    ⟨some 69, .mv (.t 68), none, false⟩,
    ⟨some 70, .mv (.t 14), some (69, true), false⟩,
    ⟨some 71, .fAddr 1 (.t 12), some (69, true), false⟩,
    ⟨some 72, .ld 1 false (.t 71), some (69, true), false⟩,
    ⟨some 73, .bin .int .leq (.t 70) (.t 72), some (69, true), false⟩,
    ⟨some 74, .pick (.t 69) (.t 73) (.c (.dat (.bool false))), none, false⟩], []⟩
@[simp] def r5_15 : AReg := ⟨[0, 1, 5, 7, 9, 10, 11, 12, 14], [], [
    ⟨some 77, .mv (.t 14), none, false⟩,
    ⟨some 13, .mv (.t 77), none, false⟩], []⟩
@[simp] def r5_16 : AReg := ⟨[0, 1, 5, 7, 9, 10, 11, 12, 13, 14], [], [
    ⟨some 75, .mv (.t 14), none, false⟩,
    ⟨some 76, .bin .int .add (.t 75) (.c (.dat (.int .i64 1))), none, false⟩,
    ⟨some 14, .mv (.t 76), none, false⟩], []⟩
def l5_0 : AC := .seq (.seq (.reg r5_14) (.cond (.t 74) (.skip) (.exit 2))) (.seq (.block 3 (.reg r5_15)) (.reg r5_16))
@[simp] theorem l5_0e (K : Orc) (s : St) : exec K l5_0 s = exec K (.seq (.seq (.reg r5_14) (.cond (.t 74) (.skip) (.exit 2))) (.seq (.block 3 (.reg r5_15)) (.reg r5_16))) s := rfl
@[simp] def r5_17 : AReg := ⟨[0, 1, 5, 7, 9, 10, 11, 12, 13], [], [
    ⟨some 78, .fAddr 0 (.t 12), none, false⟩,
    ⟨some 79, .ld 1 false (.t 78), none, false⟩], []⟩
@[simp] def r5_18 : AReg := ⟨[0, 1, 5, 7, 9, 10, 11, 12, 13, 79], [], [
    ⟨some 81, .bin .int .eql (.t 79) (.c (.dat (.int .i64 0))), none, false⟩,
    ⟨some 80, .mv (.t 81), none, false⟩], []⟩
@[simp] def r5_19 : AReg := ⟨[0, 1, 5, 7, 9, 10, 11, 12, 13], [], [
    ⟨some 82, .mv (.t 5), none, false⟩,
    ⟨some 83, .fAddr 1 (.t 12), none, false⟩,
    ⟨some 84, .ld 1 false (.t 83), none, true⟩,
    ⟨some 85, .fAddr 2 (.t 12), none, false⟩,
    ⟨some 86, .ld 1 false (.t 85), none, false⟩,
    ⟨some 87, .call 19 [((.t 86), false)] false, none, true⟩,
    ⟨some 88, .call 15 [((.t 82), true), ((.t 84), false), ((.t 87), false)] true, none, false⟩], [(2, 5)]⟩
@[simp] def r5_20 : AReg := ⟨[0, 1, 5, 7, 9, 10, 11, 12, 13], [], [
    ⟨some 89, .mv (.t 7), none, false⟩,
    ⟨some 90, .fAddr 1 (.t 12), none, false⟩,
    ⟨some 91, .ld 1 false (.t 90), none, true⟩,
    ⟨some 92, .fAddr 2 (.t 12), none, false⟩,
    ⟨some 93, .ld 1 false (.t 92), none, false⟩,
    ⟨some 94, .call 19 [((.t 93), false)] false, none, true⟩,
    ⟨some 95, .call 20 [((.t 89), true), ((.t 91), false), ((.t 94), false)] true, none, false⟩], [(2, 5)]⟩
@[simp] def r5_21 : AReg := ⟨[0, 1, 5, 7, 9, 10, 11, 12, 13, 79], [], [
    ⟨some 97, .bin .int .eql (.t 79) (.c (.dat (.int .i64 2))), none, false⟩,
    ⟨some 96, .mv (.t 97), none, false⟩], []⟩
@[simp] def r5_22 : AReg := ⟨[0, 1, 5, 7, 9, 10, 11, 13], [], [
    ⟨some 98, .mv (.t 5), none, false⟩,
    ⟨some 99, .call 16 [((.t 98), true)] true, none, false⟩], []⟩
@[simp] def r5_23 : AReg := ⟨[0, 1, 5, 7, 9, 10, 11, 13], [], [
    ⟨some 100, .mv (.t 7), none, false⟩,
    ⟨some 101, .call 21 [((.t 100), true)] true, none, false⟩], []⟩
@[simp] def r5_24 : AReg := ⟨[0, 1, 5, 7, 9, 10, 11, 12, 13, 79], [], [
    ⟨some 103, .bin .int .eql (.t 79) (.c (.dat (.int .i64 3))), none, false⟩,
    ⟨some 102, .mv (.t 103), none, false⟩], []⟩
@[simp] def r5_25 : AReg := ⟨[0, 1, 5, 7, 9, 10, 11, 12, 13], [], [
    ⟨some 104, .mv (.t 5), none, false⟩,
    ⟨some 105, .fAddr 3 (.t 12), none, false⟩,
    ⟨some 106, .ld 1 false (.t 105), none, false⟩,
    ⟨some 107, .call 22 [((.t 104), true), ((.t 106), false)] true, none, true⟩,
    ⟨some 108, .mv (.t 7), none, false⟩,
    ⟨some 109, .fAddr 3 (.t 12), none, false⟩,
    ⟨some 110, .ld 1 false (.t 109), none, true⟩,
    ⟨some 111, .call 23 [((.t 108), true), ((.t 110), false)] true, none, false⟩,
    ⟨some 112, .bin .int .neq (.t 107) (.t 111), none, false⟩], [(3, 6)]⟩
@[simp] def r5_26 : AReg := ⟨[], [], [
    ⟨some 4, .mv (.c (.dat (.bool false))), none, false⟩], []⟩
@[simp] def r5_27 : AReg := ⟨[0, 1, 5, 7, 9, 10, 11, 12, 13, 79], [], [
    ⟨some 114, .bin .int .eql (.t 79) (.c (.dat (.int .i64 4))), none, false⟩,
    ⟨some 113, .mv (.t 114), none, false⟩], []⟩
@[simp] def r5_28 : AReg := ⟨[0, 1, 5, 7, 9, 10, 11, 13], [], [
    ⟨some 116, .mv (.t 5), none, false⟩,
    ⟨some 117, .call 10 [((.t 116), true)] false, none, false⟩,
    ⟨some 115, .mv (.t 117), none, false⟩,
    ⟨some 118, .ext 0 (.t 115), none, false⟩,
    ⟨some 119, .ext 1 (.t 115), none, false⟩,
    ⟨some 120, .ext 2 (.t 115), none, false⟩,
    ⟨some 15, .mv (.t 118), none, false⟩,
    ⟨some 16, .mv (.t 119), none, false⟩,
    ⟨some 17, .mv (.t 120), none, false⟩], []⟩
@[simp] def r5_29 : AReg := ⟨[0, 1, 5, 7, 9, 10, 11, 13, 15, 16, 17], [], [
    ⟨some 122, .mv (.t 7), none, false⟩,
    ⟨some 123, .call 28 [((.t 122), true)] false, none, false⟩,
    ⟨some 121, .mv (.t 123), none, false⟩,
    ⟨some 124, .ext 0 (.t 121), none, false⟩,
    ⟨some 125, .ext 1 (.t 121), none, false⟩,
    ⟨some 126, .ext 2 (.t 121), none, false⟩,
    ⟨some 18, .mv (.t 124), none, false⟩,
    ⟨some 19, .mv (.t 125), none, false⟩,
    ⟨some 20, .mv (.t 126), none, false⟩], []⟩
@[simp] def r5_30 : AReg := ⟨[0, 1, 5, 7, 9, 10, 11, 13, 15, 16, 17, 18, 19, 20], [], [
    ⟨some 127, .mv (.t 17), none, false⟩,
    ⟨some 128, .mv (.t 20), none, false⟩,
    ⟨some 129, .bin .int .neq (.t 127) (.t 128), none, false⟩,
    ⟨some 130, .mv (.t 129), none, false⟩,
    ⟨some 131, .mv (.t 16), some (130, false), false⟩,
    ⟨some 132, .mv (.t 19), some (130, false), false⟩,
    ⟨some 133, .call 12 [((.t 131), false), ((.t 132), false)] true, some (130, false), false⟩,
    ⟨some 134, .un .not (.t 133), some (130, false), false⟩,
    ⟨some 135, .pick (.t 130) (.c (.dat (.bool true))) (.t 134), none, false⟩,
    ⟨some 136, .mv (.t 135), none, false⟩,
    ⟨some 137, .mv (.t 15), some (136, false), false⟩,
    ⟨some 138, .bin .ptr .eql (.t 137) (.c .nilp), some (136, false), false⟩,
    ⟨some 139, .mv (.t 18), some (136, false), false⟩,
    ⟨some 140, .bin .ptr .eql (.t 139) (.c .nilp), some (136, false), false⟩,
    ⟨some 141, .bin .bool .neq (.t 138) (.t 140), some (136, false), false⟩,
    ⟨some 142, .pick (.t 136) (.c (.dat (.bool true))) (.t 141), none, false⟩], []⟩
@[simp] def r5_31 : AReg := ⟨[], [], [
    ⟨some 4, .mv (.c (.dat (.bool false))), none, false⟩], []⟩
@[simp] def r5_32 : AReg := ⟨[0, 1, 5, 7, 9, 10, 11, 13, 15, 18], [], [
    ⟨some 143, .mv (.t 9), none, false⟩,
    ⟨some 144, .mv (.t 15), none, false⟩,
    ⟨some 145, .bldS .r 1 [(.t 144)], none, false⟩,
    ⟨some 146, .app .r 1 8 (.t 143) (.t 145), none, false⟩,
    ⟨some 9, .mv (.t 146), none, false⟩], []⟩
@[simp] def r5_33 : AReg := ⟨[0, 1, 5, 7, 9, 10, 11, 13, 18], [], [
    ⟨some 147, .mv (.t 10), none, false⟩,
    ⟨some 148, .mv (.t 18), none, false⟩,
    ⟨some 149, .bldS .r 1 [(.t 148)], none, false⟩,
    ⟨some 150, .app .r 1 8 (.t 147) (.t 149), none, false⟩,
    ⟨some 10, .mv (.t 150), none, false⟩], []⟩
@[simp] def r5_34 : AReg := ⟨[0, 1, 5, 7, 9, 10, 11, 12, 13, 79], [], [
    ⟨some 152, .bin .int .eql (.t 79) (.c (.dat (.int .i64 5))), none, false⟩,
    ⟨some 151, .mv (.t 152), none, false⟩], []⟩
@[simp] def r5_35 : AReg := ⟨[0, 1, 5, 7, 9, 10, 11, 12, 13], [], [
    ⟨some 153, .mv (.t 13), none, false⟩,
    ⟨some 154, .bin .int .geq (.t 153) (.c (.dat (.int .i64 0))), none, false⟩,
    ⟨some 155, .mv (.t 154), none, false⟩,
    ⟨some 156, .mv (.t 9), some (155, true), false⟩,
    ⟨some 157, .mv (.t 13), some (155, true), false⟩,
    ⟨some 158, .iAddr 1 (.t 156) (.t 157), some (155, true), false⟩,
    ⟨some 159, .ld 1 false (.t 158), some (155, true), false⟩,
    ⟨some 160, .fAddr 2 (.t 12), some (155, true), false⟩,
    ⟨some 161, .ld 1 false (.t 160), some (155, true), false⟩,
    ⟨some 162, .call 13 [((.t 159), true), ((.t 161), false)] true, some (155, true), true⟩,
    ⟨some 163, .mv (.t 10), some (155, true), false⟩,
    ⟨some 164, .mv (.t 13), some (155, true), false⟩,
    ⟨some 165, .iAddr 1 (.t 163) (.t 164), some (155, true), false⟩,
    ⟨some 166, .ld 1 false (.t 165), some (155, true), true⟩,
    ⟨some 167, .fAddr 2 (.t 12), some (155, true), false⟩,
    ⟨some 168, .ld 1 false (.t 167), some (155, true), true⟩,
    ⟨some 169, .call 29 [((.t 166), true), ((.t 168), false)] true, some (155, true), false⟩,
    ⟨some 170, .bin .int .neq (.t 162) (.t 169), some (155, true), false⟩,
    ⟨some 171, .pick (.t 155) (.t 170) (.c (.dat (.bool false))), none, false⟩], [(9, 13), (9, 15)]⟩
@[simp] def r5_36 : AReg := ⟨[], [], [
    ⟨some 4, .mv (.c (.dat (.bool false))), none, false⟩], []⟩
def b5_4 : AC := .block 4 (.seq (.reg r5_18) (.cond (.t 80) (.seq (.reg r5_19) (.reg r5_20)) (.seq (.reg r5_21) (.cond (.t 96) (.seq (.reg r5_22) (.reg r5_23)) (.seq (.reg r5_24) (.cond (.t 102) (.seq (.reg r5_25) (.cond (.t 112) (.seq (.reg r5_26) (.ret)) (.skip))) (.seq (.reg r5_27) (.cond (.t 113) (.seq (.reg r5_28) (.seq (.reg r5_29) (.seq (.seq (.reg r5_30) (.cond (.t 142) (.seq (.reg r5_31) (.ret)) (.skip))) (.seq (.reg r5_32) (.reg r5_33))))) (.seq (.reg r5_34) (.cond (.t 151) (.seq (.reg r5_35) (.cond (.t 171) (.seq (.reg r5_36) (.ret)) (.skip))) (.skip)))))))))))
theorem b5_4e (K : Orc) (s : St) : exec K b5_4 s = exec K (.block 4 (.seq (.reg r5_18) (.cond (.t 80) (.seq (.reg r5_19) (.reg r5_20)) (.seq (.reg r5_21) (.cond (.t 96) (.seq (.reg r5_22) (.reg r5_23)) (.seq (.reg r5_24) (.cond (.t 102) (.seq (.reg r5_25) (.cond (.t 112) (.seq (.reg r5_26) (.ret)) (.skip))) (.seq (.reg r5_27) (.cond (.t 113) (.seq (.reg r5_28) (.seq (.reg r5_29) (.seq (.seq (.reg r5_30) (.cond (.t 142) (.seq (.reg r5_31) (.ret)) (.skip))) (.seq (.reg r5_32) (.reg r5_33))))) (.seq (.reg r5_34) (.cond (.t 151) (.seq (.reg r5_35) (.cond (.t 171) (.seq (.reg r5_36) (.ret)) (.skip))) (.skip)))))))))))) s := rfl
@[simp] def r5_37 : AReg := ⟨[0, 1, 5, 7, 9, 10, 11, 13], [1000000, 1000, 9, 10, 5, 7], [
    ⟨some 172, .mv (.t 13), none, false⟩,
    ⟨some 173, .bin .int .geq (.t 172) (.c (.dat (.int .i64 0))), none, false⟩], []⟩
@[simp] def r5_38 : AReg := ⟨[0, 1, 5, 7, 9, 10, 11, 13], [], [
    ⟨some 175, .mv (.t 9), none, false⟩,
    ⟨some 176, .mv (.t 13), none, false⟩,
    ⟨some 177, .iAddr 1 (.t 175) (.t 176), none, false⟩,
    ⟨some 178, .ld 1 false (.t 177), none, false⟩,
    ⟨some 179, .call 30 [((.t 178), true)] false, none, false⟩,
    ⟨some 174, .mv (.t 179), none, false⟩,
    ⟨some 180, .ext 0 (.t 174), none, false⟩,
    ⟨some 181, .ext 1 (.t 174), none, false⟩,
    ⟨some 21, .mv (.t 180), none, false⟩,
    ⟨some 22, .mv (.t 181), none, false⟩], []⟩
@[simp] def r5_39 : AReg := ⟨[0, 1, 5, 7, 9, 10, 11, 13, 21, 22], [], [
    ⟨some 183, .mv (.t 10), none, false⟩,
    ⟨some 184, .mv (.t 13), none, false⟩,
    ⟨some 185, .iAddr 1 (.t 183) (.t 184), none, false⟩,
    ⟨some 186, .ld 1 false (.t 185), none, false⟩,
    ⟨some 187, .call 31 [((.t 186), true)] false, none, false⟩,
    ⟨some 182, .mv (.t 187), none, false⟩,
    ⟨some 188, .ext 0 (.t 182), none, false⟩,
    ⟨some 189, .ext 1 (.t 182), none, false⟩,
    ⟨some 23, .mv (.t 188), none, false⟩,
    ⟨some 24, .mv (.t 189), none, false⟩], []⟩
@[simp] def r5_40 : AReg := ⟨[0, 1, 5, 7, 9, 10, 11, 13, 21, 22, 23, 24], [], [
    ⟨some 190, .mv (.t 22), none, false⟩,
    ⟨some 191, .mv (.t 24), none, false⟩,
    ⟨some 192, .bin .bool .neq (.t 190) (.t 191), none, false⟩,
    ⟨some 193, .mv (.t 192), none, false⟩,
    ⟨some 194, .mv (.t 21), some (193, false), false⟩,
    ⟨some 195, .mv (.t 23), some (193, false), false⟩,
    ⟨some 196, .call 14 [((.t 194), false), ((.t 195), false)] true, some (193, false), false⟩,
    ⟨some 197, .un .not (.t 196), some (193, false), false⟩,
    ⟨some 198, .pick (.t 193) (.c (.dat (.bool true))) (.t 197), none, false⟩,
    ⟨some 199, .mv (.t 198), none, false⟩,
    ⟨some 200, .mv (.t 9), some (199, false), false⟩,
    ⟨some 201, .mv (.t 13), some (199, false), false⟩,
    ⟨some 202, .iAddr 1 (.t 200) (.t 201), some (199, false), false⟩,
    ⟨some 203, .ld 1 false (.t 202), some (199, false), false⟩,
    ⟨some 204, .call 32 [((.t 203), true)] true, some (199, false), true⟩,
    ⟨some 205, .mv (.t 10), some (199, false), false⟩,
    ⟨some 206, .mv (.t 13), some (199, false), false⟩,
    ⟨some 207, .iAddr 1 (.t 205) (.t 206), some (199, false), false⟩,
    ⟨some 208, .ld 1 false (.t 207), some (199, false), true⟩,
    ⟨some 209, .call 33 [((.t 208), true)] true, some (199, false), false⟩,
    ⟨some 210, .bin .int .neq (.t 204) (.t 209), some (199, false), false⟩,
    ⟨some 211, .pick (.t 199) (.c (.dat (.bool true))) (.t 210), none, false⟩], [(14, 18)]⟩
@[simp] def r5_41 : AReg := ⟨[], [], [
    ⟨some 4, .mv (.c (.dat (.bool false))), none, false⟩], []⟩
def k5_173 : AC := .cond (.t 173) (.seq (.reg r5_38) (.seq (.reg r5_39) (.seq (.reg r5_40) (.cond (.t 211) (.seq (.reg r5_41) (.ret)) (.skip))))) (.skip)
theorem k5_173e (K : Orc) (s : St) : exec K k5_173 s = exec K (.cond (.t 173) (.seq (.reg r5_38) (.seq (.reg r5_39) (.seq (.reg r5_40) (.cond (.t 211) (.seq (.reg r5_41) (.ret)) (.skip))))) (.skip)) s := rfl
@[simp] def r5_42 : AReg := ⟨[0, 1, 5, 7, 9, 10, 11], [], [
    ⟨some 59, .mv (.t 11), none, false⟩,
    ⟨some 60, .bin .int .add (.t 59) (.c (.dat (.int .i64 1))), none, false⟩,
    ⟨some 11, .mv (.t 60), none, false⟩], []⟩
def l5_1 : AC := .seq (.seq (.reg r5_10) (.cond (.t 58) (.skip) (.exit 0))) (.seq (.block 1 (.seq (.reg r5_11) (.seq (.reg r5_12) (.seq (.seq (.reg r5_13) (.block 2 (.loop l5_0))) (.seq (.seq (.reg r5_17) (b5_4)) (.seq (.reg r5_37) (k5_173))))))) (.reg r5_42))
@[simp] theorem l5_1e (K : Orc) (s : St) : exec K l5_1 s = exec K (.seq (.seq (.reg r5_10) (.cond (.t 58) (.skip) (.exit 0))) (.seq (.block 1 (.seq (.reg r5_11) (.seq (.reg r5_12) (.seq (.seq (.reg r5_13) (.block 2 (.loop l5_0))) (.seq (.seq (.reg r5_17) (b5_4)) (.seq (.reg r5_37) (k5_173))))))) (.reg r5_42))) s := rfl
@[simp] def r5_43 : AReg := ⟨[0, 5, 7], [], [
    ⟨some 25, .mv (.c (.dat (.int .i64 0))), none, false⟩], []⟩
@[simp] def r5_44 : AReg := ⟨[0, 5, 7, 25], [5, 7], [
    ⟨some 212, .mv (.t 25), none, false⟩,
    ⟨some 213, .mv (.t 0), none, false⟩,
    ⟨some 214, .bin .int .lss (.t 212) (.t 213), none, false⟩], []⟩
@[simp] def r5_45 : AReg := ⟨[0, 5, 7, 25], [], [
    ⟨some 218, .mv (.t 5), none, false⟩,
    ⟨some 219, .mv (.t 25), none, false⟩,
    ⟨some 220, .call 24 [((.t 218), true), ((.t 219), false)] false, none, false⟩,
    ⟨some 217, .mv (.t 220), none, false⟩,
    ⟨some 221, .ext 0 (.t 217), none, false⟩,
    ⟨some 222, .ext 1 (.t 217), none, false⟩,
    ⟨some 26, .mv (.t 221), none, false⟩,
    ⟨some 27, .mv (.t 222), none, false⟩], []⟩
@[simp] def r5_46 : AReg := ⟨[0, 5, 7, 25, 26, 27], [], [
    ⟨some 224, .mv (.t 7), none, false⟩,
    ⟨some 225, .mv (.t 25), none, false⟩,
    ⟨some 226, .call 25 [((.t 224), true), ((.t 225), false)] false, none, false⟩,
    ⟨some 223, .mv (.t 226), none, false⟩,
    ⟨some 227, .ext 0 (.t 223), none, false⟩,
    ⟨some 228, .ext 1 (.t 223), none, false⟩,
    ⟨some 28, .mv (.t 227), none, false⟩,
    ⟨some 29, .mv (.t 228), none, false⟩], []⟩
@[simp] def r5_47 : AReg := ⟨[0, 5, 7, 25, 26, 27, 28], [], [
    ⟨some 229, .mv (.t 27), none, false⟩,
    ⟨some 230, .bin .int .neq (.t 229) (.c (.dat (.int .i64 0))), none, false⟩,
    ⟨some 231, .mv (.t 230), none, false⟩,
    ⟨some 232, .mv (.t 26), some (231, false), false⟩,
    ⟨some 233, .mv (.t 28), some (231, false), false⟩,
    ⟨some 234, .call 14 [((.t 232), false), ((.t 233), false)] true, some (231, false), false⟩,
    ⟨some 235, .un .not (.t 234), some (231, false), false⟩,
    ⟨some 236, .pick (.t 231) (.c (.dat (.bool true))) (.t 235), none, false⟩], []⟩
@[simp] def r5_48 : AReg := ⟨[], [], [
    ⟨some 4, .mv (.c (.dat (.bool false))), none, false⟩], []⟩
@[simp] def r5_49 : AReg := ⟨[0, 5, 7, 25], [], [
    ⟨some 215, .mv (.t 25), none, false⟩,
    ⟨some 216, .bin .int .add (.t 215) (.c (.dat (.int .i64 1))), none, false⟩,
    ⟨some 25, .mv (.t 216), none, false⟩], []⟩
def l5_2 : AC := .seq (.seq (.reg r5_44) (.cond (.t 214) (.skip) (.exit 5))) (.seq (.block 6 (.seq (.reg r5_45) (.seq (.reg r5_46) (.seq (.reg r5_47) (.cond (.t 236) (.seq (.reg r5_48) (.ret)) (.skip)))))) (.reg r5_49))
@[simp] theorem l5_2e (K : Orc) (s : St) : exec K l5_2 s = exec K (.seq (.seq (.reg r5_44) (.cond (.t 214) (.skip) (.exit 5))) (.seq (.block 6 (.seq (.reg r5_45) (.seq (.reg r5_46) (.seq (.reg r5_47) (.cond (.t 236) (.seq (.reg r5_48) (.ret)) (.skip)))))) (.reg r5_49))) s := rfl
@[simp] def r5_50 : AReg := ⟨[], [], [
    ⟨some 237, .call 8 [] true, none, false⟩,
    ⟨some 4, .mv (.t 237), none, false⟩], []⟩
@[simp] def fn5 : AFun := ⟨2, [4], false,
  .seq (.reg r5_0) (.seq (.seq (.reg r5_1) (.cond (.t 37) (.seq (.reg r5_2) (.ret)) (.skip))) (.seq (.reg r5_3) (.seq (.reg r5_4) (.seq (.seq (.reg r5_5) (.cond (.t 54) (.seq (.reg r5_6) (.ret)) (.skip))) (.seq (.reg r5_7) (.seq (.reg r5_8) (.seq (.seq (.reg r5_9) (.block 0 (.loop l5_1))) (.seq (.seq (.reg r5_43) (.block 5 (.loop l5_2))) (.seq (.reg r5_50) (.ret)))))))))), none⟩

theorem c5 : cFun Try.prog ann5 false 5 = some fn5 := by kernel_rfl

/-! 6: modelcheck/modelchecklaw50.JournalNil -/

def ann6 : Ann := [{ id := 0, live := [0, 1] },
  { id := 1, live := [0, 1] },
  { id := 2, live := [0, 1, 5] },
  { id := 3, live := [0, 1, 5, 6] },
  { id := 4, live := [0, 1, 5, 6, 7], drop := [1, 5, 6] },
  { id := 6, live := [0, 1, 5, 6, 7], marks := [(2, { byRef := [0] })] },
  { id := 7, live := [0, 1, 5, 6, 7, 8, 9], marks := [(1, { byRef := [0] })] },
  { id := 8, live := [0, 1, 5, 6, 7, 8, 9, 10, 11, 12], marks := [(24, { byRef := [0] }), (29, { byRef := [0] }), (36, { byRef := [0] }), (41, { byRef := [0] })] },
  { id := 9, live := [] },
  { id := 10, live := [0, 1, 6, 7], marks := [(1, { byRef := [0] })] },
  { id := 11, live := [0, 1, 6, 7, 13, 14], marks := [(2, { byRef := [0] }), (14, { byRef := [0] })] },
  { id := 12, live := [] },
  { id := 13, live := [0, 1, 7] },
  { id := 5, live := [0, 1, 5, 6, 7] },
  { id := 14, live := [] }]

@[simp] def r6_0 : AReg := ⟨[0, 1], [], [
    ⟨some 4, .mv (.c (.dat (.bool false))), none, false⟩], []⟩
@[simp] def r6_1 : AReg := ⟨[0, 1], [], [
    ⟨some 5, .mv (.c .nilp), none, false⟩], []⟩
@[simp] def r6_2 : AReg := ⟨[0, 1, 5], [], [
    ⟨some 6, .mv (.c .nilp), none, false⟩], []⟩
@[simp] def r6_3 : AReg := ⟨[0, 1, 5, 6], [], [
    ⟨some 7, .mv (.c (.dat (.int .i64 0))), none, false⟩], []⟩
@[simp] def r6_4 : AReg := ⟨[0, 1, 5, 6, 7], [1, 5, 6], [
    ⟨some 15, .mv (.t 7), none, false⟩,
    ⟨some 16, .bin .int .lss (.t 15) (.c (.dat (.int .i64 2))), none, false⟩], []⟩
@[simp] def r6_5 : AReg := ⟨[0, 1, 5, 6, 7], [], [
    ⟨some 20, .mv (.t 5), none, false⟩,
    ⟨some 21, .mv (.t 0), none, false⟩,
    ⟨some 22, .call 24 [((.t 20), true), ((.t 21), false)] false, none, false⟩,
    ⟨some 19, .mv (.t 22), none, false⟩,
    ⟨some 23, .ext 0 (.t 19), none, false⟩,
    ⟨some 24, .ext 1 (.t 19), none, false⟩,
    ⟨some 8, .mv (.t 23), none, false⟩,
    ⟨some 9, .mv (.t 24), none, false⟩], []⟩
@[simp] def r6_6 : AReg := ⟨[0, 1, 5, 6, 7, 8, 9], [], [
    ⟨some 26, .mv (.t 5), none, false⟩,
    ⟨some 27, .call 10 [((.t 26), true)] false, none, false⟩,
    ⟨some 25, .mv (.t 27), none, false⟩,
    ⟨some 28, .ext 0 (.t 25), none, false⟩,
    ⟨some 29, .ext 1 (.t 25), none, false⟩,
    ⟨some 30, .ext 2 (.t 25), none, false⟩,
    ⟨some 10, .mv (.t 28), none, false⟩,
    ⟨some 11, .mv (.t 29), none, false⟩,
    ⟨some 12, .mv (.t 30), none, false⟩], []⟩
@[simp] def r6_7 : AReg := ⟨[0, 1, 5, 6, 7, 8, 9, 10, 11, 12], [], [
    ⟨some 31, .mv (.t 8), none, false⟩,
    ⟨some 32, .len false (.t 31), none, false⟩,
    ⟨some 33, .bin .int .neq (.t 32) (.c (.dat (.int .i64 0))), none, false⟩,
    ⟨some 34, .mv (.t 33), none, false⟩,
    ⟨some 35, .mv (.t 9), some (34, false), false⟩,
    ⟨some 36, .bin .int .neq (.t 35) (.c (.dat (.int .i64 23))), some (34, false), false⟩,
    ⟨some 37, .pick (.t 34) (.c (.dat (.bool true))) (.t 36), none, false⟩,
    ⟨some 38, .mv (.t 37), none, false⟩,
    ⟨some 39, .mv (.t 10), some (38, false), false⟩,
    ⟨some 40, .bin .ptr .neq (.t 39) (.c .nilp), some (38, false), false⟩,
    ⟨some 41, .pick (.t 38) (.c (.dat (.bool true))) (.t 40), none, false⟩,
    ⟨some 42, .mv (.t 41), none, false⟩,
    ⟨some 43, .mv (.t 11), some (42, false), false⟩,
    ⟨some 44, .len false (.t 43), some (42, false), false⟩,
    ⟨some 45, .bin .int .neq (.t 44) (.c (.dat (.int .i64 0))), some (42, false), false⟩,
    ⟨some 46, .pick (.t 42) (.c (.dat (.bool true))) (.t 45), none, false⟩,
    ⟨some 47, .mv (.t 46), none, false⟩,
    ⟨some 48, .mv (.t 12), some (47, false), false⟩,
    ⟨some 49, .bin .int .neq (.t 48) (.c (.dat (.int .i64 23))), some (47, false), false⟩,
    ⟨some 50, .pick (.t 47) (.c (.dat (.bool true))) (.t 49), none, false⟩,
    ⟨some 51, .mv (.t 50), none, false⟩,
    ⟨some 52, .mv (.t 5), some (51, false), false⟩,
    ⟨some 53, .mv (.t 0), some (51, false), false⟩,
    ⟨some 54, .mv (.t 1), some (51, false), false⟩,
    ⟨some 55, .call 15 [((.t 52), true), ((.t 53), false), ((.t 54), false)] true, some (51, false), false⟩,
    ⟨some 56, .bin .int .neq (.t 55) (.c (.dat (.int .i64 23))), some (51, false), false⟩,
    ⟨some 57, .pick (.t 51) (.c (.dat (.bool true))) (.t 56), none, false⟩,
    ⟨some 58, .mv (.t 57), none, false⟩,
    ⟨some 59, .mv (.t 5), some (58, false), false⟩,
    ⟨some 60, .call 16 [((.t 59), true)] true, some (58, false), false⟩,
    ⟨some 61, .bin .int .neq (.t 60) (.c (.dat (.int .i64 23))), some (58, false), false⟩,
    ⟨some 62, .pick (.t 58) (.c (.dat (.bool true))) (.t 61), none, false⟩,
    ⟨some 63, .mv (.t 62), none, false⟩,
    ⟨some 64, .mv (.t 5), some (63, false), false⟩,
    ⟨some 65, .mv (.t 0), some (63, false), false⟩,
    ⟨some 66, .bldS .d 1 [(.t 65)], some (63, false), false⟩,
    ⟨some 67, .call 22 [((.t 64), true), ((.t 66), false)] true, some (63, false), false⟩,
    ⟨some 68, .bin .int .neq (.t 67) (.c (.dat (.int .i64 23))), some (63, false), false⟩,
    ⟨some 69, .pick (.t 63) (.c (.dat (.bool true))) (.t 68), none, false⟩,
    ⟨some 70, .mv (.t 69), none, false⟩,
    ⟨some 71, .mv (.t 5), some (70, false), false⟩,
    ⟨some 72, .call 26 [((.t 71), true)] true, some (70, false), false⟩,
    ⟨some 73, .bin .int .neq (.t 72) (.c (.dat (.int .i64 0))), some (70, false), false⟩,
    ⟨some 74, .pick (.t 70) (.c (.dat (.bool true))) (.t 73), none, false⟩], []⟩
@[simp] def r6_8 : AReg := ⟨[], [], [
    ⟨some 4, .mv (.c (.dat (.bool false))), none, false⟩], []⟩
@[simp] def r6_9 : AReg := ⟨[0, 1, 6, 7], [], [
    ⟨some 76, .mv (.t 6), none, false⟩,
    ⟨some 77, .call 30 [((.t 76), true)] false, none, false⟩,
    ⟨some 75, .mv (.t 77), none, false⟩,
    ⟨some 78, .ext 0 (.t 75), none, false⟩,
    ⟨some 79, .ext 1 (.t 75), none, false⟩,
    ⟨some 13, .mv (.t 78), none, false⟩,
    ⟨some 14, .mv (.t 79), none, false⟩], []⟩
@[simp] def r6_10 : AReg := ⟨[0, 1, 6, 7, 13, 14], [], [
    ⟨some 80, .mv (.t 6), none, false⟩,
    ⟨some 81, .mv (.t 1), none, false⟩,
    ⟨some 82, .call 13 [((.t 80), true), ((.t 81), false)] true, none, false⟩,
    ⟨some 83, .bin .int .neq (.t 82) (.c (.dat (.int .i64 23))), none, false⟩,
    ⟨some 84, .mv (.t 83), none, false⟩,
    ⟨some 85, .mv (.t 13), some (84, false), false⟩,
    ⟨some 86, .len false (.t 85), some (84, false), false⟩,
    ⟨some 87, .bin .int .neq (.t 86) (.c (.dat (.int .i64 0))), some (84, false), false⟩,
    ⟨some 88, .pick (.t 84) (.c (.dat (.bool true))) (.t 87), none, false⟩,
    ⟨some 89, .mv (.t 88), none, false⟩,
    ⟨some 90, .mv (.t 14), some (89, false), false⟩,
    ⟨some 91, .pick (.t 89) (.c (.dat (.bool true))) (.t 90), none, false⟩,
    ⟨some 92, .mv (.t 91), none, false⟩,
    ⟨some 93, .mv (.t 6), some (92, false), false⟩,
    ⟨some 94, .call 32 [((.t 93), true)] true, some (92, false), false⟩,
    ⟨some 95, .bin .int .neq (.t 94) (.c (.dat (.int .i64 0))), some (92, false), false⟩,
    ⟨some 96, .pick (.t 92) (.c (.dat (.bool true))) (.t 95), none, false⟩], []⟩
@[simp] def r6_11 : AReg := ⟨[], [], [
    ⟨some 4, .mv (.c (.dat (.bool false))), none, false⟩], []⟩
@[simp] def r6_12 : AReg := ⟨[0, 1, 7], [], [
    ⟨some 97, .bld [.nils, .nils, (.dat (.int .i64 0)), (.dat (.int .i64 0)), (.dat (.bool false))] [], none, false⟩,
    ⟨some 98, .box 5 (.t 97), none, false⟩,
    ⟨some 99, .bld [.nilp, .nils, (.dat (.int .i64 0)), (.dat (.int .u32 0)), (.dat (.int .i64 0)), (.dat (.int .i64 0))] [], none, false⟩,
    ⟨some 100, .box 6 (.t 99), none, false⟩,
    ⟨some 5, .mv (.t 98), none, false⟩,
    ⟨some 6, .mv (.t 100), none, false⟩], []⟩
@[simp] def r6_13 : AReg := ⟨[0, 1, 5, 6, 7], [], [
    ⟨some 17, .mv (.t 7), none, false⟩,
    ⟨some 18, .bin .int .add (.t 17) (.c (.dat (.int .i64 1))), none, false⟩,
    ⟨some 7, .mv (.t 18), none, false⟩], []⟩
def l6_0 : AC := .seq (.seq (.reg r6_4) (.cond (.t 16) (.skip) (.exit 0))) (.seq (.block 1 (.seq (.reg r6_5) (.seq (.reg r6_6) (.seq (.seq (.reg r6_7) (.cond (.t 74) (.seq (.reg r6_8) (.ret)) (.skip))) (.seq (.reg r6_9) (.seq (.seq (.reg r6_10) (.cond (.t 96) (.seq (.reg r6_11) (.ret)) (.skip))) (.reg r6_12))))))) (.reg r6_13))
@[simp] theorem l6_0e (K : Orc) (s : St) : exec K l6_0 s = exec K (.seq (.seq (.reg r6_4) (.cond (.t 16) (.skip) (.exit 0))) (.seq (.block 1 (.seq (.reg r6_5) (.seq (.reg r6_6) (.seq (.seq (.reg r6_7) (.cond (.t 74) (.seq (.reg r6_8) (.ret)) (.skip))) (.seq (.reg r6_9) (.seq (.seq (.reg r6_10) (.cond (.t 96) (.seq (.reg r6_11) (.ret)) (.skip))) (.reg r6_12))))))) (.reg r6_13))) s := rfl
@[simp] def r6_14 : AReg := ⟨[], [], [
    ⟨some 101, .call 8 [] true, none, false⟩,
    ⟨some 4, .mv (.t 101), none, false⟩], []⟩
@[simp] def fn6 : AFun := ⟨2, [4], false,
  .seq (.reg r6_0) (.seq (.reg r6_1) (.seq (.reg r6_2) (.seq (.seq (.reg r6_3) (.block 0 (.loop l6_0))) (.seq (.reg r6_14) (.ret))))), none⟩

theorem c6 : cFun Try.prog ann6 false 6 = some fn6 := by kernel_rfl

/-! 7: modelcheck/modelchecklaw50.JournalKeeps -/

def ann7 : Ann := [{ id := 0, live := [0, 1] },
  { id := 1, live := [0, 1] },
  { id := 2, live := [] },
  { id := 3, live := [0, 1] },
  { id := 4, live := [0, 1, 5, 6] },
  { id := 5, live := [] },
  { id := 6, live := [0, 1, 5] },
  { id := 7, live := [0, 1, 5, 7], drop := [0, 5] },
  { id := 9, live := [0, 1, 5, 7] },
  { id := 10, live := [] },
  { id := 11, live := [0, 1, 5, 7], marks := [(1, { byRef := [0] })] },
  { id := 12, live := [0, 1, 5, 7, 8, 9, 10], marks := [(20, { byRef := [0] }), (25, { byRef := [0] })] },
  { id := 13, live := [] },
  { id := 14, live := [0, 1, 5, 7, 8] },
  { id := 15, live := [0, 1, 5, 7, 8], marks := [(1, { byRef := [0] }), (5, { byRef := [0] })] },
  { id := 16, live := [] },
  { id := 8, live := [0, 1, 5, 7] },
  { id := 17, live := [0, 5], marks := [(1, { byRef := [0] })] },
  { id := 18, live := [0, 12, 13] }]

@[simp] def r7_0 : AReg := ⟨[0, 1], [], [
    ⟨some 4, .mv (.c (.dat (.bool false))), none, false⟩], []⟩
@[simp] def r7_1 : AReg := ⟨[0, 1], [], [
    ⟨some 14, .mv (.t 0), none, false⟩,
    ⟨some 15, .len false (.t 14), none, false⟩,
    ⟨some 16, .bin .int .gtr (.t 15) (.c (.dat (.int .i64 15))), none, false⟩], []⟩
@[simp] def r7_2 : AReg := ⟨[], [], [
    ⟨some 17, .call 8 [] true, none, false⟩,
    ⟨some 4, .mv (.t 17), none, false⟩], []⟩
@[simp] def r7_3 : AReg := ⟨[0, 1], [], [
    ⟨some 19, .call 9 [((.c (.dat (.int .i64 100))), false)] false, none, false⟩,
    ⟨some 18, .mv (.t 19), none, false⟩,
    ⟨some 20, .ext 0 (.t 18), none, false⟩,
    ⟨some 21, .ext 1 (.t 18), none, false⟩,
    ⟨some 5, .mv (.t 20), none, false⟩,
    ⟨some 6, .mv (.t 21), none, false⟩], []⟩
@[simp] def r7_4 : AReg := ⟨[0, 1, 5, 6], [], [
    ⟨some 22, .mv (.t 6), none, false⟩,
    ⟨some 23, .bin .int .neq (.t 22) (.c (.dat (.int .i64 0))), none, false⟩], []⟩
@[simp] def r7_5 : AReg := ⟨[], [], [
    ⟨some 4, .mv (.c (.dat (.bool false))), none, false⟩], []⟩
@[simp] def r7_6 : AReg := ⟨[0, 1, 5], [], [
    ⟨some 7, .mv (.c (.dat (.int .i64 0))), none, false⟩], []⟩
@[simp] def r7_7 : AReg := ⟨[0, 1, 5, 7], [0, 5], [
    ⟨some 24, .mv (.t 7), none, false⟩,
    ⟨some 25, .mv (.t 0), none, false⟩,
    ⟨some 26, .len false (.t 25), none, false⟩,
    ⟨some 27, .bin .int .lss (.t 24) (.t 26), none, false⟩], []⟩
@[simp] def r7_8 : AReg := ⟨[0, 1, 5, 7], [], [
    ⟨some 30, .mv (.t 0), none, false⟩,
    ⟨some 31, .mv (.t 7), none, false⟩,
    ⟨some 32, .iAddr 1 (.t 30) (.t 31), none, false⟩,
    ⟨some 33, .ld 1 false (.t 32), none, false⟩,
    ⟨some 34, .len false (.t 33), none, false⟩,
    ⟨some 35, .bin .int .gtr (.t 34) (.c (.dat (.int .i64 300))), none, false⟩], []⟩
@[simp] def r7_9 : AReg := ⟨[], [], [
    ⟨some 36, .call 8 [] true, none, false⟩,
    ⟨some 4, .mv (.t 36), none, false⟩], []⟩
@[simp] def r7_10 : AReg := ⟨[0, 1, 5, 7], [], [
    ⟨some 38, .mv (.t 5), none, false⟩,
    ⟨some 39, .call 10 [((.t 38), true)] false, none, false⟩,
    ⟨some 37, .mv (.t 39), none, false⟩,
    ⟨some 40, .ext 0 (.t 37), none, false⟩,
    ⟨some 41, .ext 1 (.t 37), none, false⟩,
    ⟨some 42, .ext 2 (.t 37), none, false⟩,
    ⟨some 8, .mv (.t 40), none, false⟩,
    ⟨some 9, .mv (.t 41), none, false⟩,
    ⟨some 10, .mv (.t 42), none, false⟩], []⟩
@[simp] def r7_11 : AReg := ⟨[0, 1, 5, 7, 8, 9, 10], [], [
    ⟨some 43, .mv (.t 10), none, false⟩,
    ⟨some 44, .bin .int .neq (.t 43) (.c (.dat (.int .i64 0))), none, false⟩,
    ⟨some 45, .mv (.t 44), none, false⟩,
    ⟨some 46, .mv (.t 8), some (45, false), false⟩,
    ⟨some 47, .bin .ptr .eql (.t 46) (.c .nilp), some (45, false), false⟩,
    ⟨some 48, .pick (.t 45) (.c (.dat (.bool true))) (.t 47), none, false⟩,
    ⟨some 49, .mv (.t 48), none, false⟩,
    ⟨some 50, .mv (.t 9), some (49, false), false⟩,
    ⟨some 51, .mv (.t 0), some (49, false), false⟩,
    ⟨some 52, .mv (.t 7), some (49, false), false⟩,
    ⟨some 53, .slc false 1 (.t 51) none (some (.t 52)), some (49, false), false⟩,
    ⟨some 54, .call 12 [((.t 50), false), ((.t 53), false)] true, some (49, false), false⟩,
    ⟨some 55, .un .not (.t 54), some (49, false), false⟩,
    ⟨some 56, .pick (.t 49) (.c (.dat (.bool true))) (.t 55), none, false⟩,
    ⟨some 57, .mv (.t 56), none, false⟩,
    ⟨some 58, .mv (.t 8), some (57, false), false⟩,
    ⟨some 59, .mv (.t 0), some (57, false), false⟩,
    ⟨some 60, .mv (.t 7), some (57, false), false⟩,
    ⟨some 61, .iAddr 1 (.t 59) (.t 60), some (57, false), false⟩,
    ⟨some 62, .ld 1 false (.t 61), some (57, false), false⟩,
    ⟨some 63, .call 13 [((.t 58), true), ((.t 62), false)] true, some (57, false), false⟩,
    ⟨some 64, .bin .int .neq (.t 63) (.c (.dat (.int .i64 0))), some (57, false), false⟩,
    ⟨some 65, .pick (.t 57) (.c (.dat (.bool true))) (.t 64), none, false⟩,
    ⟨some 66, .mv (.t 65), none, false⟩,
    ⟨some 67, .mv (.t 8), some (66, false), false⟩,
    ⟨some 68, .call 32 [((.t 67), true)] true, some (66, false), false⟩,
    ⟨some 69, .mv (.t 7), some (66, false), false⟩,
    ⟨some 70, .bin .int .add (.t 69) (.c (.dat (.int .i64 1))), some (66, false), false⟩,
    ⟨some 71, .bin .int .neq (.t 68) (.t 70), some (66, false), false⟩,
    ⟨some 72, .pick (.t 66) (.c (.dat (.bool true))) (.t 71), none, false⟩], []⟩
@[simp] def r7_12 : AReg := ⟨[], [], [
    ⟨some 4, .mv (.c (.dat (.bool false))), none, false⟩], []⟩
@[simp] def r7_13 : AReg := ⟨[0, 1, 5, 7, 8], [], [
    ⟨some 73, .mv (.t 1), none, false⟩], []⟩
@[simp] def r7_14 : AReg := ⟨[0, 1, 5, 7, 8], [], [
    ⟨some 74, .mv (.t 5), none, false⟩,
    ⟨some 75, .call 22 [((.t 74), true), ((.c .nils), false)] true, none, false⟩,
    ⟨some 76, .bin .int .neq (.t 75) (.c (.dat (.int .i64 0))), none, false⟩,
    ⟨some 77, .mv (.t 76), none, false⟩,
    ⟨some 78, .mv (.t 8), some (77, false), false⟩,
    ⟨some 79, .call 13 [((.t 78), true), ((.c .nils), false)] true, some (77, false), false⟩,
    ⟨some 80, .bin .int .neq (.t 79) (.c (.dat (.int .i64 25))), some (77, false), false⟩,
    ⟨some 81, .pick (.t 77) (.c (.dat (.bool true))) (.t 80), none, false⟩], []⟩
@[simp] def r7_15 : AReg := ⟨[], [], [
    ⟨some 4, .mv (.c (.dat (.bool false))), none, false⟩], []⟩
@[simp] def r7_16 : AReg := ⟨[0, 1, 5, 7], [], [
    ⟨some 28, .mv (.t 7), none, false⟩,
    ⟨some 29, .bin .int .add (.t 28) (.c (.dat (.int .i64 1))), none, false⟩,
    ⟨some 7, .mv (.t 29), none, false⟩], []⟩
def l7_0 : AC := .seq (.seq (.reg r7_7) (.cond (.t 27) (.skip) (.exit 0))) (.seq (.block 1 (.seq (.seq (.reg r7_8) (.cond (.t 35) (.seq (.reg r7_9) (.ret)) (.skip))) (.seq (.reg r7_10) (.seq (.seq (.reg r7_11) (.cond (.t 72) (.seq (.reg r7_12) (.ret)) (.skip))) (.seq (.reg r7_13) (.cond (.t 73) (.seq (.reg r7_14) (.cond (.t 81) (.seq (.reg r7_15) (.ret)) (.skip))) (.skip))))))) (.reg r7_16))
@[simp] theorem l7_0e (K : Orc) (s : St) : exec K l7_0 s = exec K (.seq (.seq (.reg r7_7) (.cond (.t 27) (.skip) (.exit 0))) (.seq (.block 1 (.seq (.seq (.reg r7_8) (.cond (.t 35) (.seq (.reg r7_9) (.ret)) (.skip))) (.seq (.reg r7_10) (.seq (.seq (.reg r7_11) (.cond (.t 72) (.seq (.reg r7_12) (.ret)) (.skip))) (.seq (.reg r7_13) (.cond (.t 73) (.seq (.reg r7_14) (.cond (.t 81) (.seq (.reg r7_15) (.ret)) (.skip))) (.skip))))))) (.reg r7_16))) s := rfl
@[simp] def r7_17 : AReg := ⟨[0, 5], [], [
    ⟨some 83, .mv (.t 5), none, false⟩,
    ⟨some 84, .call 10 [((.t 83), true)] false, none, false⟩,
    ⟨some 82, .mv (.t 84), none, false⟩,
    ⟨some 85, .ext 0 (.t 82), none, false⟩,
    ⟨some 86, .ext 1 (.t 82), none, false⟩,
    ⟨some 87, .ext 2 (.t 82), none, false⟩,
    ⟨some 11, .mv (.t 85), none, false⟩,
    ⟨some 12, .mv (.t 86), none, false⟩,
    ⟨some 13, .mv (.t 87), none, false⟩], []⟩
@[simp] def r7_18 : AReg := ⟨[0, 12, 13], [], [
    ⟨some 88, .mv (.t 13), none, false⟩,
    ⟨some 89, .bin .int .eql (.t 88) (.c (.dat (.int .i64 0))), none, false⟩,
    ⟨some 90, .mv (.t 89), none, false⟩,
    ⟨some 91, .mv (.t 12), some (90, true), false⟩,
    ⟨some 92, .mv (.t 0), some (90, true), false⟩,
    ⟨some 93, .call 12 [((.t 91), false), ((.t 92), false)] true, some (90, true), false⟩,
    ⟨some 94, .pick (.t 90) (.t 93) (.c (.dat (.bool false))), none, false⟩,
    ⟨some 95, .mv (.t 94), none, false⟩,
    ⟨some 96, .call 8 [] true, some (95, true), false⟩,
    ⟨some 97, .pick (.t 95) (.t 96) (.c (.dat (.bool false))), none, false⟩,
    ⟨some 4, .mv (.t 97), none, false⟩], []⟩
@[simp] def fn7 : AFun := ⟨2, [4], false,
  .seq (.reg r7_0) (.seq (.seq (.reg r7_1) (.cond (.t 16) (.seq (.reg r7_2) (.ret)) (.skip))) (.seq (.reg r7_3) (.seq (.seq (.reg r7_4) (.cond (.t 23) (.seq (.reg r7_5) (.ret)) (.skip))) (.seq (.seq (.reg r7_6) (.block 0 (.loop l7_0))) (.seq (.reg r7_17) (.seq (.reg r7_18) (.ret))))))), none⟩

theorem c7 : cFun Try.prog ann7 false 7 = some fn7 := by kernel_rfl

/-! 8: modelcheck/modelchecklaw50.lives -/

def ann8 : Ann := [{ id := 0, live := [] },
  { id := 1, live := [] },
  { id := 2, live := [1, 2] },
  { id := 3, live := [] },
  { id := 4, live := [1], marks := [(1, { byRef := [0] })] },
  { id := 5, live := [1, 3, 4, 5], marks := [(14, { byRef := [0] }), (20, { byRef := [0] })] },
  { id := 6, live := [] },
  { id := 7, live := [1, 3], marks := [(1, { byRef := [0] })] },
  { id := 8, live := [1, 3, 6, 7], marks := [(1, { byRef := [0] })] },
  { id := 9, live := [1, 3, 6, 7, 8, 9], marks := [(23, { byRef := [0] }), (28, { byRef := [0] })] }]

@[simp] def r8_0 : AReg := ⟨[], [], [
    ⟨some 0, .mv (.c (.dat (.bool false))), none, false⟩], []⟩
@[simp] def r8_1 : AReg := ⟨[], [], [
    ⟨some 11, .call 9 [((.c (.dat (.int .i64 2))), false)] false, none, false⟩,
    ⟨some 10, .mv (.t 11), none, false⟩,
    ⟨some 12, .ext 0 (.t 10), none, false⟩,
    ⟨some 13, .ext 1 (.t 10), none, false⟩,
    ⟨some 1, .mv (.t 12), none, false⟩,
    ⟨some 2, .mv (.t 13), none, false⟩], []⟩
@[simp] def r8_2 : AReg := ⟨[1, 2], [], [
    ⟨some 14, .mv (.t 2), none, false⟩,
    ⟨some 15, .bin .int .neq (.t 14) (.c (.dat (.int .i64 0))), none, false⟩,
    ⟨some 16, .mv (.t 15), none, false⟩,
    ⟨some 17, .mv (.t 1), some (16, false), false⟩,
    ⟨some 18, .bin .ptr .eql (.t 17) (.c .nilp), some (16, false), false⟩,
    ⟨some 19, .pick (.t 16) (.c (.dat (.bool true))) (.t 18), none, false⟩], []⟩
@[simp] def r8_3 : AReg := ⟨[], [], [
    ⟨some 0, .mv (.c (.dat (.bool false))), none, false⟩], []⟩
@[simp] def r8_4 : AReg := ⟨[1], [], [
    ⟨some 21, .mv (.t 1), none, false⟩,
    ⟨some 22, .call 10 [((.t 21), true)] false, none, false⟩,
    ⟨some 20, .mv (.t 22), none, false⟩,
    ⟨some 23, .ext 0 (.t 20), none, false⟩,
    ⟨some 24, .ext 1 (.t 20), none, false⟩,
    ⟨some 25, .ext 2 (.t 20), none, false⟩,
    ⟨some 3, .mv (.t 23), none, false⟩,
    ⟨some 4, .mv (.t 24), none, false⟩,
    ⟨some 5, .mv (.t 25), none, false⟩], []⟩
@[simp] def r8_5 : AReg := ⟨[1, 3, 4, 5], [], [
    ⟨some 26, .mv (.t 5), none, false⟩,
    ⟨some 27, .bin .int .neq (.t 26) (.c (.dat (.int .i64 0))), none, false⟩,
    ⟨some 28, .mv (.t 27), none, false⟩,
    ⟨some 29, .mv (.t 3), some (28, false), false⟩,
    ⟨some 30, .bin .ptr .eql (.t 29) (.c .nilp), some (28, false), false⟩,
    ⟨some 31, .pick (.t 28) (.c (.dat (.bool true))) (.t 30), none, false⟩,
    ⟨some 32, .mv (.t 31), none, false⟩,
    ⟨some 33, .mv (.t 4), some (32, false), false⟩,
    ⟨some 34, .len false (.t 33), some (32, false), false⟩,
    ⟨some 35, .bin .int .neq (.t 34) (.c (.dat (.int .i64 0))), some (32, false), false⟩,
    ⟨some 36, .pick (.t 32) (.c (.dat (.bool true))) (.t 35), none, false⟩,
    ⟨some 37, .mv (.t 36), none, false⟩,
    ⟨some 38, .mv (.t 3), some (37, false), false⟩,
    ⟨some 39, .bldS .d 1 [(.c (.dat (.int .u8 7))), (.c (.dat (.int .u8 8))), (.c (.dat (.int .u8 9)))], some (37, false), false⟩,
    ⟨some 40, .call 13 [((.t 38), true), ((.t 39), false)] true, some (37, false), false⟩,
    ⟨some 41, .bin .int .neq (.t 40) (.c (.dat (.int .i64 0))), some (37, false), false⟩,
    ⟨some 42, .pick (.t 37) (.c (.dat (.bool true))) (.t 41), none, false⟩,
    ⟨some 43, .mv (.t 42), none, false⟩,
    ⟨some 44, .mv (.t 3), some (43, false), false⟩,
    ⟨some 45, .mk .d 1 1 [(.dat (.int .u8 0))] (.c (.dat (.int .i64 100))) (.c (.dat (.int .i64 100))), some (43, false), false⟩,
    ⟨some 46, .call 13 [((.t 44), true), ((.t 45), false)] true, some (43, false), false⟩,
    ⟨some 47, .bin .int .neq (.t 46) (.c (.dat (.int .i64 24))), some (43, false), false⟩,
    ⟨some 48, .pick (.t 43) (.c (.dat (.bool true))) (.t 47), none, false⟩], []⟩
@[simp] def r8_6 : AReg := ⟨[], [], [
    ⟨some 0, .mv (.c (.dat (.bool false))), none, false⟩], []⟩
@[simp] def r8_7 : AReg := ⟨[1, 3], [], [
    ⟨some 50, .mv (.t 1), none, false⟩,
    ⟨some 51, .call 24 [((.t 50), true), ((.c (.dat (.int .i64 0))), false)] false, none, false⟩,
    ⟨some 49, .mv (.t 51), none, false⟩,
    ⟨some 52, .ext 0 (.t 49), none, false⟩,
    ⟨some 53, .ext 1 (.t 49), none, false⟩,
    ⟨some 6, .mv (.t 52), none, false⟩,
    ⟨some 7, .mv (.t 53), none, false⟩], []⟩
@[simp] def r8_8 : AReg := ⟨[1, 3, 6, 7], [], [
    ⟨some 55, .mv (.t 3), none, false⟩,
    ⟨some 56, .call 30 [((.t 55), true)] false, none, false⟩,
    ⟨some 54, .mv (.t 56), none, false⟩,
    ⟨some 57, .ext 0 (.t 54), none, false⟩,
    ⟨some 58, .ext 1 (.t 54), none, false⟩,
    ⟨some 8, .mv (.t 57), none, false⟩,
    ⟨some 9, .mv (.t 58), none, false⟩], []⟩
@[simp] def r8_9 : AReg := ⟨[1, 3, 6, 7, 8, 9], [], [
    ⟨some 59, .mv (.t 7), none, false⟩,
    ⟨some 60, .bin .int .eql (.t 59) (.c (.dat (.int .i64 0))), none, false⟩,
    ⟨some 61, .mv (.t 60), none, false⟩,
    ⟨some 62, .mv (.t 6), some (61, true), false⟩,
    ⟨some 63, .len false (.t 62), some (61, true), false⟩,
    ⟨some 64, .bin .int .eql (.t 63) (.c (.dat (.int .i64 64))), some (61, true), false⟩,
    ⟨some 65, .pick (.t 61) (.t 64) (.c (.dat (.bool false))), none, false⟩,
    ⟨some 66, .mv (.t 65), none, false⟩,
    ⟨some 67, .mv (.t 6), some (66, true), false⟩,
    ⟨some 68, .slc false 1 (.t 67) none (some (.c (.dat (.int .i64 13)))), some (66, true), false⟩,
    ⟨some 69, .bldS .d 1 [(.c (.dat (.int .u8 1))), (.c (.dat (.int .u8 0))), (.c (.dat (.int .u8 0))), (.c (.dat (.int .u8 0))), (.c (.dat (.int .u8 0))), (.c (.dat (.int .u8 0))), (.c (.dat (.int .u8 0))), (.c (.dat (.int .u8 0))), (.c (.dat (.int .u8 0))), (.c (.dat (.int .u8 0))), (.c (.dat (.int .u8 1))), (.c (.dat (.int .u8 0))), (.c (.dat (.int .u8 3)))], some (66, true), false⟩,
    ⟨some 70, .call 14 [((.t 68), false), ((.t 69), false)] true, some (66, true), false⟩,
    ⟨some 71, .pick (.t 66) (.t 70) (.c (.dat (.bool false))), none, false⟩,
    ⟨some 72, .mv (.t 71), none, false⟩,
    ⟨some 73, .mv (.t 9), some (72, true), false⟩,
    ⟨some 74, .pick (.t 72) (.t 73) (.c (.dat (.bool false))), none, false⟩,
    ⟨some 75, .mv (.t 74), none, false⟩,
    ⟨some 76, .mv (.t 8), some (75, true), false⟩,
    ⟨some 77, .bldS .d 1 [(.c (.dat (.int .u8 7))), (.c (.dat (.int .u8 8))), (.c (.dat (.int .u8 9)))], some (75, true), false⟩,
    ⟨some 78, .call 14 [((.t 76), false), ((.t 77), false)] true, some (75, true), false⟩,
    ⟨some 79, .pick (.t 75) (.t 78) (.c (.dat (.bool false))), none, false⟩,
    ⟨some 80, .mv (.t 79), none, false⟩,
    ⟨some 81, .mv (.t 3), some (80, true), false⟩,
    ⟨some 82, .call 32 [((.t 81), true)] true, some (80, true), false⟩,
    ⟨some 83, .bin .int .eql (.t 82) (.c (.dat (.int .i64 1))), some (80, true), false⟩,
    ⟨some 84, .pick (.t 80) (.t 83) (.c (.dat (.bool false))), none, false⟩,
    ⟨some 85, .mv (.t 84), none, false⟩,
    ⟨some 86, .mv (.t 1), some (85, true), false⟩,
    ⟨some 87, .call 26 [((.t 86), true)] true, some (85, true), false⟩,
    ⟨some 88, .bin .int .eql (.t 87) (.c (.dat (.int .i64 0))), some (85, true), false⟩,
    ⟨some 89, .pick (.t 85) (.t 88) (.c (.dat (.bool false))), none, false⟩,
    ⟨some 0, .mv (.t 89), none, false⟩], []⟩
@[simp] def fn8 : AFun := ⟨0, [0], false,
  .seq (.reg r8_0) (.seq (.reg r8_1) (.seq (.seq (.reg r8_2) (.cond (.t 19) (.seq (.reg r8_3) (.ret)) (.skip))) (.seq (.reg r8_4) (.seq (.seq (.reg r8_5) (.cond (.t 48) (.seq (.reg r8_6) (.ret)) (.skip))) (.seq (.reg r8_7) (.seq (.reg r8_8) (.seq (.reg r8_9) (.ret)))))))), none⟩

theorem c8 : cFun Try.prog ann8 false 8 = some fn8 := by kernel_rfl

/-! 9: modelcheck/journal.NewDisk -/

def ann9 : Ann := [{ id := 0, live := [0] },
  { id := 1, live := [0] },
  { id := 2, live := [] },
  { id := 3, live := [0] },
  { id := 4, live := [0, 4] },
  { id := 5, live := [4, 13, 14], drop := [4] },
  { id := 6, live := [4, 13, 14], marks := [(7, { md := .o })] },
  { id := 7, live := [4, 13, 14] },
  { id := 8, live := [4] }]

@[simp] def r9_0 : AReg := ⟨[0], [], [
    ⟨some 2, .mv (.c .nilp), none, false⟩,
    ⟨some 3, .mv (.c (.dat (.int .i64 0))), none, false⟩], []⟩
@[simp] def r9_1 : AReg := ⟨[0], [], [
    ⟨some 5, .mv (.t 0), none, false⟩,
    ⟨some 6, .bin .int .lss (.t 5) (.c (.dat (.int .i64 1))), none, false⟩,
    ⟨some 7, .mv (.t 6), none, false⟩,
    ⟨some 8, .mv (.t 0), some (7, false), false⟩,
    ⟨some 9, .bin .int .gtr (.t 8) (.c (.dat (.int .i64 4096))), some (7, false), false⟩,
    ⟨some 10, .pick (.t 7) (.c (.dat (.bool true))) (.t 9), none, false⟩], []⟩
@[simp] def r9_2 : AReg := ⟨[], [], [
    ⟨some 2, .mv (.c .nilp), none, false⟩,
    ⟨some 3, .mv (.c (.dat (.int .i64 2))), none, false⟩], []⟩
@[simp] def r9_3 : AReg := ⟨[0], [], [
    ⟨some 11, .bld [.nils, .nils, (.dat (.int .i64 0)), (.dat (.int .i64 0)), (.dat (.bool false))] [(4, 1, (.c (.dat (.bool true))))], none, false⟩,
    ⟨some 12, .box 5 (.t 11), none, false⟩,
    ⟨some 4, .mv (.t 12), none, false⟩], []⟩
@[simp] def r9_4 : AReg := ⟨[0, 4], [], [
    ⟨some 13, .mv (.t 0), none, false⟩,
    ⟨some 14, .mv (.c (.dat (.int .i64 0))), none, false⟩], []⟩
@[simp] def r9_5 : AReg := ⟨[4, 13, 14], [4], [
    ⟨some 15, .bin .int .lss (.t 14) (.t 13), none, false⟩], []⟩
@[simp] def r9_6 : AReg := ⟨[4, 13, 14], [], [
    ⟨some 16, .mv (.t 4), none, false⟩,
    ⟨some 17, .mv (.t 4), none, false⟩,
    ⟨some 18, .nilChk (.t 17), none, false⟩,
    ⟨some 19, .fAddr 0 (.t 18), none, false⟩,
    ⟨some 20, .ld 1 false (.t 19), none, true⟩,
    ⟨some 21, .mk .d 1 1 [(.dat (.int .u8 0))] (.c (.dat (.int .i64 64))) (.c (.dat (.int .i64 64))), none, false⟩,
    ⟨some 22, .bldS .d 1 [(.t 21)], none, true⟩,
    ⟨some 23, .app .o 1 24 (.t 20) (.t 22), none, false⟩,
    ⟨some 24, .nilChk (.t 16), none, false⟩,
    ⟨some 25, .fAddr 0 (.t 24), none, false⟩,
    ⟨none, .st 1 (.t 25) (.t 23), none, false⟩], [(4, 6)]⟩
@[simp] def r9_7 : AReg := ⟨[4, 13, 14], [], [
    ⟨some 26, .bin .int .add (.t 14) (.c (.dat (.int .i64 1))), none, false⟩,
    ⟨some 14, .mv (.t 26), none, false⟩], []⟩
def l9_0 : AC := .seq (.reg r9_5) (.seq (.cond (.t 15) (.skip) (.exit 0)) (.seq (.block 1 (.reg r9_6)) (.reg r9_7)))
@[simp] theorem l9_0e (K : Orc) (s : St) : exec K l9_0 s = exec K (.seq (.reg r9_5) (.seq (.cond (.t 15) (.skip) (.exit 0)) (.seq (.block 1 (.reg r9_6)) (.reg r9_7)))) s := rfl
@[simp] def r9_8 : AReg := ⟨[4], [], [
    ⟨some 27, .mv (.t 4), none, false⟩,
    ⟨some 2, .mv (.t 27), none, false⟩,
    ⟨some 3, .mv (.c (.dat (.int .i64 0))), none, false⟩], []⟩
@[simp] def fn9 : AFun := ⟨1, [2, 3], false,
  .seq (.reg r9_0) (.seq (.seq (.reg r9_1) (.cond (.t 10) (.seq (.reg r9_2) (.ret)) (.skip))) (.seq (.reg r9_3) (.seq (.seq (.reg r9_4) (.block 0 (.loop l9_0))) (.seq (.reg r9_8) (.ret))))), none⟩

theorem c9 : cFun Try.prog ann9 false 9 = some fn9 := by kernel_rfl

/-! 10: modelcheck/journal.Open -/

def ann10 : Ann := [{ id := 0, live := [0] },
  { id := 1, live := [0], marks := [(1, { byRef := [0] })] },
  { id := 2, live := [] },
  { id := 3, live := [0] },
  { id := 4, live := [0, 5] },
  { id := 5, live := [0, 5, 19, 20], drop := [0] },
  { id := 6, live := [0, 5, 19, 20] },
  { id := 7, live := [0, 5, 6, 19, 20], marks := [(3, { byRef := [0] })] },
  { id := 8, live := [0, 5, 19, 20] },
  { id := 9, live := [0, 5] },
  { id := 10, live := [] },
  { id := 11, live := [0, 5] },
  { id := 12, live := [0, 5] },
  { id := 13, live := [0, 7], marks := [(0, { md := .o })] },
  { id := 14, live := [0, 7, 8], drop := [0, 7, 8], marks := [(11, { byRef := [0] })] },
  { id := 15, live := [0, 7, 8, 9, 10, 11] },
  { id := 16, live := [7, 8] },
  { id := 17, live := [0, 7, 8, 9, 10], marks := [(7, { md := .o })] },
  { id := 18, live := [0, 7, 8, 9, 10], marks := [(4, { md := .o })] },
  { id := 19, live := [0, 7, 8, 10] }]

@[simp] def r10_0 : AReg := ⟨[0], [], [
    ⟨some 2, .mv (.c .nilp), none, false⟩,
    ⟨some 3, .mv (.c .nils), none, false⟩,
    ⟨some 4, .mv (.c (.dat (.int .i64 0))), none, false⟩], []⟩
@[simp] def r10_1 : AReg := ⟨[0], [], [
    ⟨some 12, .mv (.t 0), none, false⟩,
    ⟨some 13, .call 34 [((.t 12), true)] true, none, false⟩,
    ⟨some 14, .un .not (.t 13), none, false⟩], []⟩
@[simp] def r10_2 : AReg := ⟨[], [], [
    ⟨some 2, .mv (.c .nilp), none, false⟩,
    ⟨some 3, .mv (.c .nils), none, false⟩,
    ⟨some 4, .mv (.c (.dat (.int .i64 23))), none, false⟩], []⟩
@[simp] def r10_3 : AReg := ⟨[0], [], [
    ⟨some 5, .mv (.c (.dat (.int .u32 0))), none, false⟩], []⟩
@[simp] def r10_4 : AReg := ⟨[0, 5], [], [
    ⟨some 15, .mv (.t 0), none, false⟩,
    ⟨some 16, .nilChk (.t 15), none, false⟩,
    ⟨some 17, .fAddr 0 (.t 16), none, false⟩,
    ⟨some 18, .ld 1 false (.t 17), none, false⟩,
    ⟨some 19, .len false (.t 18), none, false⟩,
    ⟨some 20, .mv (.c (.dat (.int .i64 0))), none, false⟩], []⟩
@[simp] def r10_5 : AReg := ⟨[0, 5, 19, 20], [0], [
    ⟨some 21, .bin .int .lss (.t 20) (.t 19), none, false⟩], []⟩
@[simp] def r10_6 : AReg := ⟨[0, 5, 19, 20], [], [
    ⟨some 22, .mv (.t 20), none, false⟩,
    ⟨some 6, .mv (.t 22), none, false⟩], []⟩
@[simp] def r10_7 : AReg := ⟨[0, 5, 6, 19, 20], [], [
    ⟨some 23, .mv (.t 5), none, false⟩,
    ⟨some 24, .mv (.t 0), none, false⟩,
    ⟨some 25, .mv (.t 6), none, false⟩,
    ⟨some 26, .call 36 [((.t 24), true), ((.t 25), false)] false, none, false⟩,
    ⟨some 27, .call 35 [((.t 26), false)] true, none, false⟩,
    ⟨some 28, .mm true (.t 23) [(.t 27)], none, false⟩,
    ⟨some 5, .mv (.t 28), none, false⟩], []⟩
@[simp] def r10_8 : AReg := ⟨[0, 5, 19, 20], [], [
    ⟨some 29, .bin .int .add (.t 20) (.c (.dat (.int .i64 1))), none, false⟩,
    ⟨some 20, .mv (.t 29), none, false⟩], []⟩
def l10_0 : AC := .seq (.reg r10_5) (.seq (.cond (.t 21) (.skip) (.exit 0)) (.seq (.block 1 (.seq (.reg r10_6) (.reg r10_7))) (.reg r10_8)))
@[simp] theorem l10_0e (K : Orc) (s : St) : exec K l10_0 s = exec K (.seq (.reg r10_5) (.seq (.cond (.t 21) (.skip) (.exit 0)) (.seq (.block 1 (.seq (.reg r10_6) (.reg r10_7))) (.reg r10_8)))) s := rfl
@[simp] def r10_9 : AReg := ⟨[0, 5], [], [
    ⟨some 30, .mv (.t 5), none, false⟩,
    ⟨some 31, .bin .int .eql (.t 30) (.c (.dat (.int .u32 4294967295))), none, false⟩], []⟩
@[simp] def r10_10 : AReg := ⟨[], [], [
    ⟨some 2, .mv (.c .nilp), none, false⟩,
    ⟨some 3, .mv (.c .nils), none, false⟩,
    ⟨some 4, .mv (.c (.dat (.int .i64 24))), none, false⟩], []⟩
@[simp] def r10_11 : AReg := ⟨[0, 5], [], [
    ⟨some 32, .mv (.t 0), none, false⟩,
    ⟨some 33, .nilChk (.t 32), none, false⟩,
    ⟨some 34, .fAddr 3 (.t 33), none, false⟩,
    ⟨some 35, .ld 1 false (.t 34), none, false⟩,
    ⟨some 36, .bin .int .add (.t 35) (.c (.dat (.int .i64 1))), none, false⟩,
    ⟨some 37, .nilChk (.t 32), none, false⟩,
    ⟨some 38, .fAddr 3 (.t 37), none, false⟩,
    ⟨none, .st 1 (.t 38) (.t 36), none, false⟩], []⟩
@[simp] def r10_12 : AReg := ⟨[0, 5], [], [
    ⟨some 39, .mv (.t 0), none, false⟩,
    ⟨some 40, .mv (.t 5), none, false⟩,
    ⟨some 41, .bin .int .add (.t 40) (.c (.dat (.int .u32 1))), none, false⟩,
    ⟨some 42, .mv (.t 0), none, false⟩,
    ⟨some 43, .nilChk (.t 42), none, false⟩,
    ⟨some 44, .fAddr 2 (.t 43), none, false⟩,
    ⟨some 45, .ld 1 false (.t 44), none, false⟩,
    ⟨some 46, .mv (.t 0), none, false⟩,
    ⟨some 47, .nilChk (.t 46), none, false⟩,
    ⟨some 48, .fAddr 3 (.t 47), none, false⟩,
    ⟨some 49, .ld 1 false (.t 48), none, false⟩,
    ⟨some 50, .bld [.nilp, .nils, (.dat (.int .i64 0)), (.dat (.int .u32 0)), (.dat (.int .i64 0)), (.dat (.int .i64 0))] [(0, 1, (.t 39)), (3, 1, (.t 41)), (4, 1, (.t 45)), (5, 1, (.t 49))], none, false⟩,
    ⟨some 51, .box 6 (.t 50), none, false⟩,
    ⟨some 7, .mv (.t 51), none, false⟩], []⟩
@[simp] def r10_13 : AReg := ⟨[0, 7], [], [
    ⟨some 8, .mvNil .o 1, none, false⟩], []⟩
@[simp] def r10_14 : AReg := ⟨[0, 7, 8], [0, 7, 8], [
    ⟨some 53, .mv (.t 0), none, false⟩,
    ⟨some 54, .mv (.t 7), none, false⟩,
    ⟨some 55, .nilChk (.t 54), none, false⟩,
    ⟨some 56, .fAddr 2 (.t 55), none, false⟩,
    ⟨some 57, .ld 1 false (.t 56), none, false⟩,
    ⟨some 58, .mv (.t 7), none, false⟩,
    ⟨some 59, .nilChk (.t 58), none, false⟩,
    ⟨some 60, .fAddr 1 (.t 59), none, false⟩,
    ⟨some 61, .ld 1 false (.t 60), none, false⟩,
    ⟨some 62, .len false (.t 61), none, false⟩,
    ⟨some 63, .cvt .u32 (.t 62), none, false⟩,
    ⟨some 64, .call 37 [((.t 53), true), ((.t 57), false), ((.t 63), false)] false, none, false⟩,
    ⟨some 52, .mv (.t 64), none, false⟩,
    ⟨some 65, .ext 0 (.t 52), none, false⟩,
    ⟨some 66, .ext 1 (.t 52), none, false⟩,
    ⟨some 67, .ext 2 (.t 52), none, false⟩,
    ⟨some 9, .mv (.t 65), none, false⟩,
    ⟨some 10, .mv (.t 66), none, false⟩,
    ⟨some 11, .mv (.t 67), none, false⟩], []⟩
@[simp] def r10_15 : AReg := ⟨[0, 7, 8, 9, 10, 11], [], [
    ⟨some 68, .mv (.t 11), none, false⟩,
    ⟨some 69, .un .not (.t 68), none, false⟩], []⟩
@[simp] def r10_16 : AReg := ⟨[7, 8], [], [
    ⟨some 70, .mv (.t 7), none, false⟩,
    ⟨some 71, .mv (.t 8), none, false⟩,
    ⟨some 2, .mv (.t 70), none, false⟩,
    ⟨some 3, .mv (.t 71), none, false⟩,
    ⟨some 4, .mv (.c (.dat (.int .i64 0))), none, false⟩], []⟩
@[simp] def r10_17 : AReg := ⟨[0, 7, 8, 9, 10], [], [
    ⟨some 72, .mv (.t 7), none, false⟩,
    ⟨some 73, .mv (.t 7), none, false⟩,
    ⟨some 74, .nilChk (.t 73), none, false⟩,
    ⟨some 75, .fAddr 1 (.t 74), none, false⟩,
    ⟨some 76, .ld 1 false (.t 75), none, false⟩,
    ⟨some 77, .mv (.t 9), none, false⟩,
    ⟨some 78, .bldS .d 1 [(.t 77)], none, false⟩,
    ⟨some 79, .app .o 1 24 (.t 76) (.t 78), none, false⟩,
    ⟨some 80, .nilChk (.t 72), none, false⟩,
    ⟨some 81, .fAddr 1 (.t 80), none, false⟩,
    ⟨none, .st 1 (.t 81) (.t 79), none, false⟩], []⟩
@[simp] def r10_18 : AReg := ⟨[0, 7, 8, 9, 10], [], [
    ⟨some 82, .mv (.t 8), none, false⟩,
    ⟨some 83, .mv (.t 9), none, false⟩,
    ⟨some 84, .call 38 [((.t 83), false)] false, none, false⟩,
    ⟨some 85, .bldS .d 1 [(.t 84)], none, false⟩,
    ⟨some 86, .app .o 1 24 (.t 82) (.t 85), none, false⟩,
    ⟨some 8, .mv (.t 86), none, false⟩], []⟩
@[simp] def r10_19 : AReg := ⟨[0, 7, 8, 10], [], [
    ⟨some 87, .mv (.t 7), none, false⟩,
    ⟨some 88, .nilChk (.t 87), none, false⟩,
    ⟨some 89, .fAddr 2 (.t 88), none, false⟩,
    ⟨some 90, .ld 1 false (.t 89), none, false⟩,
    ⟨some 91, .mv (.t 10), none, false⟩,
    ⟨some 92, .bin .int .add (.t 90) (.t 91), none, false⟩,
    ⟨some 93, .nilChk (.t 87), none, false⟩,
    ⟨some 94, .fAddr 2 (.t 93), none, false⟩,
    ⟨none, .st 1 (.t 94) (.t 92), none, false⟩], []⟩
def l10_1 : AC := .block 3 (.seq (.reg r10_14) (.seq (.seq (.reg r10_15) (.cond (.t 69) (.seq (.reg r10_16) (.ret)) (.skip))) (.seq (.reg r10_17) (.seq (.reg r10_18) (.reg r10_19)))))
@[simp] theorem l10_1e (K : Orc) (s : St) : exec K l10_1 s = exec K (.block 3 (.seq (.reg r10_14) (.seq (.seq (.reg r10_15) (.cond (.t 69) (.seq (.reg r10_16) (.ret)) (.skip))) (.seq (.reg r10_17) (.seq (.reg r10_18) (.reg r10_19)))))) s := rfl
@[simp] def fn10 : AFun := ⟨1, [2, 3, 4], false,
  .seq (.reg r10_0) (.seq (.seq (.reg r10_1) (.cond (.t 14) (.seq (.reg r10_2) (.ret)) (.skip))) (.seq (.reg r10_3) (.seq (.seq (.reg r10_4) (.block 0 (.loop l10_0))) (.seq (.seq (.reg r10_9) (.cond (.t 31) (.seq (.reg r10_10) (.ret)) (.skip))) (.seq (.reg r10_11) (.seq (.reg r10_12) (.seq (.reg r10_13) (.block 2 (.loop l10_1))))))))), none⟩

theorem c10 : cFun Try.prog ann10 false 10 = some fn10 := by kernel_rfl

/-! 11: modelcheck/modelchecklaw50.contents -/

def ann11 : Ann := [{ id := 0, live := [0, 1] },
  { id := 1, live := [0, 1], marks := [(0, { md := .o })] },
  { id := 2, live := [0, 1, 6] },
  { id := 3, live := [0, 1, 6, 7], drop := [0, 6] },
  { id := 5, live := [0, 1, 6, 7], marks := [(2, { byRef := [0] })] },
  { id := 6, live := [0, 1, 6, 7, 8, 9] },
  { id := 7, live := [] },
  { id := 8, live := [0, 1, 6, 7, 8], marks := [(3, { md := .o })] },
  { id := 4, live := [0, 1, 6, 7] },
  { id := 9, live := [6] }]

@[simp] def r11_0 : AReg := ⟨[0, 1], [], [
    ⟨some 4, .mv (.c .nils), none, false⟩,
    ⟨some 5, .mv (.c (.dat (.bool false))), none, false⟩], []⟩
@[simp] def r11_1 : AReg := ⟨[0, 1], [], [
    ⟨some 6, .mvNil .o 1, none, false⟩], []⟩
@[simp] def r11_2 : AReg := ⟨[0, 1, 6], [], [
    ⟨some 7, .mv (.c (.dat (.int .i64 0))), none, false⟩], []⟩
@[simp] def r11_3 : AReg := ⟨[0, 1, 6, 7], [0, 6], [
    ⟨some 10, .mv (.t 7), none, false⟩,
    ⟨some 11, .mv (.t 1), none, false⟩,
    ⟨some 12, .bin .int .lss (.t 10) (.t 11), none, false⟩], []⟩
@[simp] def r11_4 : AReg := ⟨[0, 1, 6, 7], [], [
    ⟨some 16, .mv (.t 0), none, false⟩,
    ⟨some 17, .mv (.t 7), none, false⟩,
    ⟨some 18, .call 24 [((.t 16), true), ((.t 17), false)] false, none, false⟩,
    ⟨some 15, .mv (.t 18), none, false⟩,
    ⟨some 19, .ext 0 (.t 15), none, false⟩,
    ⟨some 20, .ext 1 (.t 15), none, false⟩,
    ⟨some 8, .mv (.t 19), none, false⟩,
    ⟨some 9, .mv (.t 20), none, false⟩], []⟩
@[simp] def r11_5 : AReg := ⟨[0, 1, 6, 7, 8, 9], [], [
    ⟨some 21, .mv (.t 9), none, false⟩,
    ⟨some 22, .bin .int .neq (.t 21) (.c (.dat (.int .i64 0))), none, false⟩,
    ⟨some 23, .mv (.t 22), none, false⟩,
    ⟨some 24, .mv (.t 8), some (23, false), false⟩,
    ⟨some 25, .len false (.t 24), some (23, false), false⟩,
    ⟨some 26, .bin .int .neq (.t 25) (.c (.dat (.int .i64 64))), some (23, false), false⟩,
    ⟨some 27, .pick (.t 23) (.c (.dat (.bool true))) (.t 26), none, false⟩], []⟩
@[simp] def r11_6 : AReg := ⟨[], [], [
    ⟨some 4, .mv (.c .nils), none, false⟩,
    ⟨some 5, .mv (.c (.dat (.bool false))), none, false⟩], []⟩
@[simp] def r11_7 : AReg := ⟨[0, 1, 6, 7, 8], [], [
    ⟨some 28, .mv (.t 6), none, false⟩,
    ⟨some 29, .mv (.t 8), none, false⟩,
    ⟨some 30, .bldS .d 1 [(.t 29)], none, false⟩,
    ⟨some 31, .app .o 1 24 (.t 28) (.t 30), none, false⟩,
    ⟨some 6, .mv (.t 31), none, false⟩], []⟩
@[simp] def r11_8 : AReg := ⟨[0, 1, 6, 7], [], [
    ⟨some 13, .mv (.t 7), none, false⟩,
    ⟨some 14, .bin .int .add (.t 13) (.c (.dat (.int .i64 1))), none, false⟩,
    ⟨some 7, .mv (.t 14), none, false⟩], []⟩
def l11_0 : AC := .seq (.seq (.reg r11_3) (.cond (.t 12) (.skip) (.exit 0))) (.seq (.block 1 (.seq (.reg r11_4) (.seq (.seq (.reg r11_5) (.cond (.t 27) (.seq (.reg r11_6) (.ret)) (.skip))) (.reg r11_7)))) (.reg r11_8))
@[simp] theorem l11_0e (K : Orc) (s : St) : exec K l11_0 s = exec K (.seq (.seq (.reg r11_3) (.cond (.t 12) (.skip) (.exit 0))) (.seq (.block 1 (.seq (.reg r11_4) (.seq (.seq (.reg r11_5) (.cond (.t 27) (.seq (.reg r11_6) (.ret)) (.skip))) (.reg r11_7)))) (.reg r11_8))) s := rfl
@[simp] def r11_9 : AReg := ⟨[6], [], [
    ⟨some 32, .mv (.t 6), none, false⟩,
    ⟨some 4, .mv (.t 32), none, false⟩,
    ⟨some 5, .mv (.c (.dat (.bool true))), none, false⟩], []⟩
@[simp] def fn11 : AFun := ⟨2, [4, 5], false,
  .seq (.reg r11_0) (.seq (.reg r11_1) (.seq (.seq (.reg r11_2) (.block 0 (.loop l11_0))) (.seq (.reg r11_9) (.ret)))), none⟩

theorem c11 : cFun Try.prog ann11 false 11 = some fn11 := by kernel_rfl

/-! 12: modelcheck/modelcheckref50.Lists -/

def ann12 : Ann := [{ id := 0, live := [0, 1] },
  { id := 1, live := [0, 1] },
  { id := 2, live := [] },
  { id := 3, live := [0, 1] },
  { id := 4, live := [0, 1, 5] },
  { id := 6, live := [0, 1, 5] },
  { id := 7, live := [] },
  { id := 5, live := [0, 1, 5] },
  { id := 8, live := [] }]

@[simp] def r12_0 : AReg := ⟨[0, 1], [], [
    ⟨some 4, .mv (.c (.dat (.bool false))), none, false⟩], []⟩
@[simp] def r12_1 : AReg := ⟨[0, 1], [], [
    ⟨some 6, .mv (.t 0), none, false⟩,
    ⟨some 7, .len false (.t 6), none, false⟩,
    ⟨some 8, .mv (.t 1), none, false⟩,
    ⟨some 9, .len false (.t 8), none, false⟩,
    ⟨some 10, .bin .int .neq (.t 7) (.t 9), none, false⟩], []⟩
@[simp] def r12_2 : AReg := ⟨[], [], [
    ⟨some 4, .mv (.c (.dat (.bool false))), none, false⟩], []⟩
@[simp] def r12_3 : AReg := ⟨[0, 1], [], [
    ⟨some 5, .mv (.c (.dat (.int .i64 0))), none, false⟩], []⟩
@[simp] def r12_4 : AReg := ⟨[0, 1, 5], [], [
    ⟨some 11, .mv (.t 5), none, false⟩,
    ⟨some 12, .mv (.t 0), none, false⟩,
    ⟨some 13, .len false (.t 12), none, false⟩,
    ⟨some 14, .bin .int .lss (.t 11) (.t 13), none, false⟩], []⟩
@[simp] def r12_5 : AReg := ⟨[0, 1, 5], [], [
    ⟨some 17, .mv (.t 0), none, false⟩,
    ⟨some 18, .mv (.t 5), none, false⟩,
    ⟨some 19, .iAddr 1 (.t 17) (.t 18), none, false⟩,
    ⟨some 20, .ld 1 false (.t 19), none, false⟩,
    ⟨some 21, .mv (.t 1), none, false⟩,
    ⟨some 22, .mv (.t 5), none, false⟩,
    ⟨some 23, .iAddr 1 (.t 21) (.t 22), none, false⟩,
    ⟨some 24, .ld 1 false (.t 23), none, false⟩,
    ⟨some 25, .call 14 [((.t 20), false), ((.t 24), false)] true, none, false⟩,
    ⟨some 26, .un .not (.t 25), none, false⟩], []⟩
@[simp] def r12_6 : AReg := ⟨[], [], [
    ⟨some 4, .mv (.c (.dat (.bool false))), none, false⟩], []⟩
@[simp] def r12_7 : AReg := ⟨[0, 1, 5], [], [
    ⟨some 15, .mv (.t 5), none, false⟩,
    ⟨some 16, .bin .int .add (.t 15) (.c (.dat (.int .i64 1))), none, false⟩,
    ⟨some 5, .mv (.t 16), none, false⟩], []⟩
def l12_0 : AC := .seq (.seq (.reg r12_4) (.cond (.t 14) (.skip) (.exit 0))) (.seq (.block 1 (.seq (.reg r12_5) (.cond (.t 26) (.seq (.reg r12_6) (.ret)) (.skip)))) (.reg r12_7))
@[simp] theorem l12_0e (K : Orc) (s : St) : exec K l12_0 s = exec K (.seq (.seq (.reg r12_4) (.cond (.t 14) (.skip) (.exit 0))) (.seq (.block 1 (.seq (.reg r12_5) (.cond (.t 26) (.seq (.reg r12_6) (.ret)) (.skip)))) (.reg r12_7))) s := rfl
@[simp] def r12_8 : AReg := ⟨[], [], [
    ⟨some 4, .mv (.c (.dat (.bool true))), none, false⟩], []⟩
@[simp] def fn12 : AFun := ⟨2, [4], false,
  .seq (.reg r12_0) (.seq (.seq (.reg r12_1) (.cond (.t 10) (.seq (.reg r12_2) (.ret)) (.skip))) (.seq (.seq (.reg r12_3) (.block 0 (.loop l12_0))) (.seq (.reg r12_8) (.ret)))), none⟩

theorem c12 : cFun Try.prog ann12 false 12 = some fn12 := by kernel_rfl

/-! 13: (*modelcheck/journal.Journal).Append -/

def ann13 : Ann := [{ id := 0, live := [0, 1] },
  { id := 1, live := [0, 1], marks := [(1, { byRef := [0] })] },
  { id := 2, live := [] },
  { id := 3, live := [0, 1] },
  { id := 4, live := [] },
  { id := 5, live := [0, 1] },
  { id := 6, live := [] },
  { id := 7, live := [0, 1] },
  { id := 8, live := [0, 1, 5] },
  { id := 9, live := [] },
  { id := 10, live := [0, 1, 5] },
  { id := 11, live := [0, 1, 5, 65, 66, 67], drop := [0, 1, 5, 65] },
  { id := 12, live := [0, 1, 5, 65, 66, 67] },
  { id := 13, live := [0, 1, 5, 6, 7, 65, 66, 67], marks := [(11, { byRef := [0] })] },
  { id := 14, live := [0, 1, 5, 8, 65, 66, 67] },
  { id := 15, live := [8] },
  { id := 16, live := [0, 1, 5, 65, 66, 67] },
  { id := 17, live := [0, 1, 5], marks := [(4, { byRef := [0] })] },
  { id := 18, live := [0, 1, 5, 9] },
  { id := 19, live := [9] },
  { id := 20, live := [0, 1, 5] },
  { id := 21, live := [0, 1], marks := [(8, { md := .o })] },
  { id := 22, live := [] }]

@[simp] def r13_0 : AReg := ⟨[0, 1], [], [
    ⟨some 4, .mv (.c (.dat (.int .i64 0))), none, false⟩], []⟩
@[simp] def r13_1 : AReg := ⟨[0, 1], [], [
    ⟨some 10, .mv (.t 0), none, false⟩,
    ⟨some 11, .call 39 [((.t 10), true)] true, none, false⟩,
    ⟨some 12, .un .not (.t 11), none, false⟩], []⟩
@[simp] def r13_2 : AReg := ⟨[], [], [
    ⟨some 4, .mv (.c (.dat (.int .i64 23))), none, false⟩], []⟩
@[simp] def r13_3 : AReg := ⟨[0, 1], [], [
    ⟨some 13, .mv (.t 0), none, false⟩,
    ⟨some 14, .nilChk (.t 13), none, false⟩,
    ⟨some 15, .fAddr 0 (.t 14), none, false⟩,
    ⟨some 16, .ld 1 false (.t 15), none, false⟩,
    ⟨some 17, .nilChk (.t 16), none, false⟩,
    ⟨some 18, .fAddr 2 (.t 17), none, false⟩,
    ⟨some 19, .ld 1 false (.t 18), none, false⟩,
    ⟨some 20, .mv (.t 0), none, false⟩,
    ⟨some 21, .nilChk (.t 20), none, false⟩,
    ⟨some 22, .fAddr 4 (.t 21), none, false⟩,
    ⟨some 23, .ld 1 false (.t 22), none, false⟩,
    ⟨some 24, .bin .int .neq (.t 19) (.t 23), none, false⟩], []⟩
@[simp] def r13_4 : AReg := ⟨[], [], [
    ⟨some 4, .mv (.c (.dat (.int .i64 25))), none, false⟩], []⟩
@[simp] def r13_5 : AReg := ⟨[0, 1], [], [
    ⟨some 25, .mv (.t 0), none, false⟩,
    ⟨some 26, .nilChk (.t 25), none, false⟩,
    ⟨some 27, .fAddr 0 (.t 26), none, false⟩,
    ⟨some 28, .ld 1 false (.t 27), none, false⟩,
    ⟨some 29, .nilChk (.t 28), none, false⟩,
    ⟨some 30, .fAddr 3 (.t 29), none, false⟩,
    ⟨some 31, .ld 1 false (.t 30), none, false⟩,
    ⟨some 32, .mv (.t 0), none, false⟩,
    ⟨some 33, .nilChk (.t 32), none, false⟩,
    ⟨some 34, .fAddr 5 (.t 33), none, false⟩,
    ⟨some 35, .ld 1 false (.t 34), none, false⟩,
    ⟨some 36, .bin .int .neq (.t 31) (.t 35), none, false⟩], []⟩
@[simp] def r13_6 : AReg := ⟨[], [], [
    ⟨some 4, .mv (.c (.dat (.int .i64 30))), none, false⟩], []⟩
@[simp] def r13_7 : AReg := ⟨[0, 1], [], [
    ⟨some 37, .mv (.t 1), none, false⟩,
    ⟨some 38, .mv (.t 0), none, false⟩,
    ⟨some 39, .nilChk (.t 38), none, false⟩,
    ⟨some 40, .fAddr 1 (.t 39), none, false⟩,
    ⟨some 41, .ld 1 false (.t 40), none, false⟩,
    ⟨some 42, .len false (.t 41), none, false⟩,
    ⟨some 43, .cvt .u32 (.t 42), none, false⟩,
    ⟨some 44, .mv (.t 0), none, false⟩,
    ⟨some 45, .nilChk (.t 44), none, false⟩,
    ⟨some 46, .fAddr 3 (.t 45), none, false⟩,
    ⟨some 47, .ld 1 false (.t 46), none, false⟩,
    ⟨some 48, .call 40 [((.t 37), false), ((.t 43), false), ((.t 47), false)] false, none, false⟩,
    ⟨some 5, .mv (.t 48), none, false⟩], []⟩
@[simp] def r13_8 : AReg := ⟨[0, 1, 5], [], [
    ⟨some 49, .mv (.t 5), none, false⟩,
    ⟨some 50, .len false (.t 49), none, false⟩,
    ⟨some 51, .mv (.t 0), none, false⟩,
    ⟨some 52, .nilChk (.t 51), none, false⟩,
    ⟨some 53, .fAddr 0 (.t 52), none, false⟩,
    ⟨some 54, .ld 1 false (.t 53), none, false⟩,
    ⟨some 55, .nilChk (.t 54), none, false⟩,
    ⟨some 56, .fAddr 0 (.t 55), none, false⟩,
    ⟨some 57, .ld 1 false (.t 56), none, false⟩,
    ⟨some 58, .len false (.t 57), none, false⟩,
    ⟨some 59, .mv (.t 0), none, false⟩,
    ⟨some 60, .nilChk (.t 59), none, false⟩,
    ⟨some 61, .fAddr 2 (.t 60), none, false⟩,
    ⟨some 62, .ld 1 false (.t 61), none, false⟩,
    ⟨some 63, .bin .int .sub (.t 58) (.t 62), none, false⟩,
    ⟨some 64, .bin .int .gtr (.t 50) (.t 63), none, false⟩], []⟩
@[simp] def r13_9 : AReg := ⟨[], [], [
    ⟨some 4, .mv (.c (.dat (.int .i64 24))), none, false⟩], []⟩
@[simp] def r13_10 : AReg := ⟨[0, 1, 5], [], [
    ⟨some 65, .mv (.t 5), none, false⟩,
    ⟨some 66, .len false (.t 65), none, false⟩,
    ⟨some 67, .mv (.c (.dat (.int .i64 0))), none, false⟩], []⟩
@[simp] def r13_11 : AReg := ⟨[0, 1, 5, 65, 66, 67], [0, 1, 5, 65], [
    ⟨some 68, .bin .int .lss (.t 67) (.t 66), none, false⟩], []⟩
@[simp] def r13_12 : AReg := ⟨[0, 1, 5, 65, 66, 67], [], [
    ⟨some 69, .mv (.t 67), none, false⟩,
    ⟨some 70, .iAddr 1 (.t 65) (.t 67), none, false⟩,
    ⟨some 71, .ld 1 false (.t 70), none, false⟩,
    ⟨some 6, .mv (.t 69), none, false⟩,
    ⟨some 7, .mv (.t 71), none, false⟩], []⟩
@[simp] def r13_13 : AReg := ⟨[0, 1, 5, 6, 7, 65, 66, 67], [], [
    ⟨some 72, .mv (.t 0), none, false⟩,
    ⟨some 73, .nilChk (.t 72), none, false⟩,
    ⟨some 74, .fAddr 0 (.t 73), none, false⟩,
    ⟨some 75, .ld 1 false (.t 74), none, false⟩,
    ⟨some 76, .mv (.t 0), none, false⟩,
    ⟨some 77, .nilChk (.t 76), none, false⟩,
    ⟨some 78, .fAddr 2 (.t 77), none, false⟩,
    ⟨some 79, .ld 1 false (.t 78), none, false⟩,
    ⟨some 80, .mv (.t 6), none, false⟩,
    ⟨some 81, .bin .int .add (.t 79) (.t 80), none, false⟩,
    ⟨some 82, .mv (.t 7), none, false⟩,
    ⟨some 83, .call 15 [((.t 75), true), ((.t 81), false), ((.t 82), false)] true, none, false⟩,
    ⟨some 8, .mv (.t 83), none, false⟩], []⟩
@[simp] def r13_14 : AReg := ⟨[0, 1, 5, 8, 65, 66, 67], [], [
    ⟨some 84, .mv (.t 8), none, false⟩,
    ⟨some 85, .bin .int .neq (.t 84) (.c (.dat (.int .i64 0))), none, false⟩], []⟩
@[simp] def r13_15 : AReg := ⟨[8], [], [
    ⟨some 86, .mv (.t 8), none, false⟩,
    ⟨some 4, .mv (.t 86), none, false⟩], []⟩
@[simp] def r13_16 : AReg := ⟨[0, 1, 5, 65, 66, 67], [], [
    ⟨some 87, .bin .int .add (.t 67) (.c (.dat (.int .i64 1))), none, false⟩,
    ⟨some 67, .mv (.t 87), none, false⟩], []⟩
def l13_0 : AC := .seq (.reg r13_11) (.seq (.cond (.t 68) (.skip) (.exit 0)) (.seq (.block 1 (.seq (.reg r13_12) (.seq (.reg r13_13) (.seq (.reg r13_14) (.cond (.t 85) (.seq (.reg r13_15) (.ret)) (.skip)))))) (.reg r13_16)))
@[simp] theorem l13_0e (K : Orc) (s : St) : exec K l13_0 s = exec K (.seq (.reg r13_11) (.seq (.cond (.t 68) (.skip) (.exit 0)) (.seq (.block 1 (.seq (.reg r13_12) (.seq (.reg r13_13) (.seq (.reg r13_14) (.cond (.t 85) (.seq (.reg r13_15) (.ret)) (.skip)))))) (.reg r13_16)))) s := rfl
@[simp] def r13_17 : AReg := ⟨[0, 1, 5], [], [
    ⟨some 88, .mv (.t 0), none, false⟩,
    ⟨some 89, .nilChk (.t 88), none, false⟩,
    ⟨some 90, .fAddr 0 (.t 89), none, false⟩,
    ⟨some 91, .ld 1 false (.t 90), none, false⟩,
    ⟨some 92, .call 16 [((.t 91), true)] true, none, false⟩,
    ⟨some 9, .mv (.t 92), none, false⟩], []⟩
@[simp] def r13_18 : AReg := ⟨[0, 1, 5, 9], [], [
    ⟨some 93, .mv (.t 9), none, false⟩,
    ⟨some 94, .bin .int .neq (.t 93) (.c (.dat (.int .i64 0))), none, false⟩], []⟩
@[simp] def r13_19 : AReg := ⟨[9], [], [
    ⟨some 95, .mv (.t 9), none, false⟩,
    ⟨some 4, .mv (.t 95), none, false⟩], []⟩
@[simp] def r13_20 : AReg := ⟨[0, 1, 5], [], [
    ⟨some 96, .mv (.t 0), none, false⟩,
    ⟨some 97, .nilChk (.t 96), none, false⟩,
    ⟨some 98, .fAddr 2 (.t 97), none, false⟩,
    ⟨some 99, .ld 1 false (.t 98), none, false⟩,
    ⟨some 100, .mv (.t 5), none, false⟩,
    ⟨some 101, .len false (.t 100), none, false⟩,
    ⟨some 102, .bin .int .add (.t 99) (.t 101), none, false⟩,
    ⟨some 103, .nilChk (.t 96), none, false⟩,
    ⟨some 104, .fAddr 2 (.t 103), none, false⟩,
    ⟨none, .st 1 (.t 104) (.t 102), none, false⟩], []⟩
@[simp] def r13_21 : AReg := ⟨[0, 1], [], [
    ⟨some 105, .mv (.t 0), none, false⟩,
    ⟨some 106, .mv (.t 0), none, false⟩,
    ⟨some 107, .nilChk (.t 106), none, false⟩,
    ⟨some 108, .fAddr 1 (.t 107), none, false⟩,
    ⟨some 109, .ld 1 false (.t 108), none, true⟩,
    ⟨some 110, .mv (.t 1), none, false⟩,
    ⟨some 111, .call 38 [((.t 110), false)] false, none, true⟩,
    ⟨some 112, .bldS .d 1 [(.t 111)], none, true⟩,
    ⟨some 113, .app .o 1 24 (.t 109) (.t 112), none, false⟩,
    ⟨some 114, .nilChk (.t 105), none, false⟩,
    ⟨some 115, .fAddr 1 (.t 114), none, false⟩,
    ⟨none, .st 1 (.t 115) (.t 113), none, false⟩], [(4, 6), (4, 7)]⟩
@[simp] def r13_22 : AReg := ⟨[], [], [
    ⟨some 4, .mv (.c (.dat (.int .i64 0))), none, false⟩], []⟩
@[simp] def fn13 : AFun := ⟨2, [4], false,
  .seq (.reg r13_0) (.seq (.seq (.reg r13_1) (.cond (.t 12) (.seq (.reg r13_2) (.ret)) (.skip))) (.seq (.seq (.reg r13_3) (.cond (.t 24) (.seq (.reg r13_4) (.ret)) (.skip))) (.seq (.seq (.reg r13_5) (.cond (.t 36) (.seq (.reg r13_6) (.ret)) (.skip))) (.seq (.reg r13_7) (.seq (.seq (.reg r13_8) (.cond (.t 64) (.seq (.reg r13_9) (.ret)) (.skip))) (.seq (.seq (.reg r13_10) (.block 0 (.loop l13_0))) (.seq (.seq (.reg r13_17) (.seq (.reg r13_18) (.cond (.t 94) (.seq (.reg r13_19) (.ret)) (.skip)))) (.seq (.reg r13_20) (.seq (.reg r13_21) (.seq (.reg r13_22) (.ret))))))))))), none⟩

theorem c13 : cFun Try.prog ann13 false 13 = some fn13 := by kernel_rfl

/-! 14: modelcheck/modelcheckref06.Same -/

def ann14 : Ann := [{ id := 0, live := [0, 1] },
  { id := 1, live := [0, 1] }]

@[simp] def r14_0 : AReg := ⟨[0, 1], [], [
    ⟨some 4, .mv (.c (.dat (.bool false))), none, false⟩], []⟩
@[simp] def r14_1 : AReg := ⟨[0, 1], [], [
    ⟨some 5, .mv (.t 0), none, false⟩,
    ⟨some 6, .b2s (.t 5), none, false⟩,
    ⟨some 7, .mv (.t 1), none, false⟩,
    ⟨some 8, .b2s (.t 7), none, false⟩,
    ⟨some 9, .bin .str .eql (.t 6) (.t 8), none, false⟩,
    ⟨some 4, .mv (.t 9), none, false⟩], []⟩
@[simp] def fn14 : AFun := ⟨2, [4], false,
  .seq (.reg r14_0) (.seq (.reg r14_1) (.ret)), none⟩

theorem c14 : cFun Try.prog ann14 false 14 = some fn14 := by kernel_rfl

/-! 15: (*modelcheck/journal.Disk).Write -/

def ann15 : Ann := [{ id := 0, live := [0, 1, 2] },
  { id := 1, live := [0, 1, 2], marks := [(1, { byRef := [0] })] },
  { id := 2, live := [] },
  { id := 3, live := [0, 1, 2] },
  { id := 4, live := [] },
  { id := 5, live := [0, 1, 2] },
  { id := 6, live := [] },
  { id := 7, live := [0, 1, 2], marks := [(0, { md := .o })] },
  { id := 8, live := [0, 1, 2, 7] },
  { id := 9, live := [0, 1, 7], marks := [(9, { md := .o })] },
  { id := 10, live := [] }]

@[simp] def r15_0 : AReg := ⟨[0, 1, 2], [], [
    ⟨some 6, .mv (.c (.dat (.int .i64 0))), none, false⟩], []⟩
@[simp] def r15_1 : AReg := ⟨[0, 1, 2], [], [
    ⟨some 8, .mv (.t 0), none, false⟩,
    ⟨some 9, .call 34 [((.t 8), true)] true, none, false⟩,
    ⟨some 10, .un .not (.t 9), none, false⟩], []⟩
@[simp] def r15_2 : AReg := ⟨[], [], [
    ⟨some 6, .mv (.c (.dat (.int .i64 23))), none, false⟩], []⟩
@[simp] def r15_3 : AReg := ⟨[0, 1, 2], [], [
    ⟨some 11, .mv (.t 1), none, false⟩,
    ⟨some 12, .bin .int .lss (.t 11) (.c (.dat (.int .i64 0))), none, false⟩,
    ⟨some 13, .mv (.t 12), none, false⟩,
    ⟨some 14, .mv (.t 1), some (13, false), false⟩,
    ⟨some 15, .mv (.t 0), some (13, false), false⟩,
    ⟨some 16, .nilChk (.t 15), some (13, false), false⟩,
    ⟨some 17, .fAddr 0 (.t 16), some (13, false), false⟩,
    ⟨some 18, .ld 1 false (.t 17), some (13, false), false⟩,
    ⟨some 19, .len false (.t 18), some (13, false), false⟩,
    ⟨some 20, .bin .int .geq (.t 14) (.t 19), some (13, false), false⟩,
    ⟨some 21, .pick (.t 13) (.c (.dat (.bool true))) (.t 20), none, false⟩], []⟩
@[simp] def r15_4 : AReg := ⟨[], [], [
    ⟨some 6, .mv (.c (.dat (.int .i64 2))), none, false⟩], []⟩
@[simp] def r15_5 : AReg := ⟨[0, 1, 2], [], [
    ⟨some 22, .mv (.t 2), none, false⟩,
    ⟨some 23, .len false (.t 22), none, false⟩,
    ⟨some 24, .bin .int .neq (.t 23) (.c (.dat (.int .i64 64))), none, false⟩], []⟩
@[simp] def r15_6 : AReg := ⟨[], [], [
    ⟨some 6, .mv (.c (.dat (.int .i64 1))), none, false⟩], []⟩
@[simp] def r15_7 : AReg := ⟨[0, 1, 2], [], [
    ⟨some 25, .mk .o 1 1 [(.dat (.int .u8 0))] (.c (.dat (.int .i64 64))) (.c (.dat (.int .i64 64))), none, false⟩,
    ⟨some 7, .mv (.t 25), none, false⟩], []⟩
@[simp] def r15_8 : AReg := ⟨[0, 1, 2, 7], [], [
    ⟨some 26, .mv (.t 7), none, false⟩,
    ⟨some 27, .mv (.t 2), none, false⟩,
    ⟨some 28, .cpy 1 (.t 26) (.t 27), none, false⟩], []⟩
@[simp] def r15_9 : AReg := ⟨[0, 1, 7], [], [
    ⟨some 29, .mv (.t 0), none, false⟩,
    ⟨some 30, .mv (.t 0), none, false⟩,
    ⟨some 31, .nilChk (.t 30), none, false⟩,
    ⟨some 32, .fAddr 1 (.t 31), none, false⟩,
    ⟨some 33, .ld 1 false (.t 32), none, false⟩,
    ⟨some 34, .mv (.t 1), none, false⟩,
    ⟨some 35, .mv (.t 7), none, false⟩,
    ⟨some 36, .bld [(.dat (.int .i64 0)), .nils] [(0, 1, (.t 34)), (1, 1, (.t 35))], none, false⟩,
    ⟨some 37, .bldS .d 2 [(.t 36)], none, false⟩,
    ⟨some 38, .app .o 2 32 (.t 33) (.t 37), none, false⟩,
    ⟨some 39, .nilChk (.t 29), none, false⟩,
    ⟨some 40, .fAddr 1 (.t 39), none, false⟩,
    ⟨none, .st 1 (.t 40) (.t 38), none, false⟩], []⟩
@[simp] def r15_10 : AReg := ⟨[], [], [
    ⟨some 6, .mv (.c (.dat (.int .i64 0))), none, false⟩], []⟩
@[simp] def fn15 : AFun := ⟨3, [6], false,
  .seq (.reg r15_0) (.seq (.seq (.reg r15_1) (.cond (.t 10) (.seq (.reg r15_2) (.ret)) (.skip))) (.seq (.seq (.reg r15_3) (.cond (.t 21) (.seq (.reg r15_4) (.ret)) (.skip))) (.seq (.seq (.reg r15_5) (.cond (.t 24) (.seq (.reg r15_6) (.ret)) (.skip))) (.seq (.reg r15_7) (.seq (.reg r15_8) (.seq (.reg r15_9) (.seq (.reg r15_10) (.ret)))))))), none⟩

theorem c15 : cFun Try.prog ann15 false 15 = some fn15 := by kernel_rfl

/-! 16: (*modelcheck/journal.Disk).Sync -/

def ann16 : Ann := [{ id := 0, live := [0] },
  { id := 1, live := [0], marks := [(1, { byRef := [0] })] },
  { id := 2, live := [] },
  { id := 3, live := [0] },
  { id := 4, live := [0, 11, 12, 13], drop := [0, 11] },
  { id := 5, live := [0, 11, 12, 13] },
  { id := 6, live := [0, 4, 11, 12, 13] },
  { id := 7, live := [0, 11, 12, 13] },
  { id := 8, live := [0] },
  { id := 9, live := [] }]

@[simp] def r16_0 : AReg := ⟨[0], [], [
    ⟨some 2, .mv (.c (.dat (.int .i64 0))), none, false⟩], []⟩
@[simp] def r16_1 : AReg := ⟨[0], [], [
    ⟨some 5, .mv (.t 0), none, false⟩,
    ⟨some 6, .call 34 [((.t 5), true)] true, none, false⟩,
    ⟨some 7, .un .not (.t 6), none, false⟩], []⟩
@[simp] def r16_2 : AReg := ⟨[], [], [
    ⟨some 2, .mv (.c (.dat (.int .i64 23))), none, false⟩], []⟩
@[simp] def r16_3 : AReg := ⟨[0], [], [
    ⟨some 8, .mv (.t 0), none, false⟩,
    ⟨some 9, .nilChk (.t 8), none, false⟩,
    ⟨some 10, .fAddr 1 (.t 9), none, false⟩,
    ⟨some 11, .ld 1 false (.t 10), none, false⟩,
    ⟨some 12, .len false (.t 11), none, false⟩,
    ⟨some 13, .mv (.c (.dat (.int .i64 0))), none, false⟩], []⟩
@[simp] def r16_4 : AReg := ⟨[0, 11, 12, 13], [0, 11], [
    ⟨some 14, .bin .int .lss (.t 13) (.t 12), none, false⟩], []⟩
@[simp] def r16_5 : AReg := ⟨[0, 11, 12, 13], [], [
    ⟨some 15, .iAddr 2 (.t 11) (.t 13), none, false⟩,
    ⟨some 16, .ld 2 true (.t 15), none, false⟩,
    ⟨some 4, .alc [(.dat (.int .i64 0)), .nils], none, false⟩,
    ⟨none, .st 2 (.t 4) (.t 16), none, false⟩], []⟩
@[simp] def r16_6 : AReg := ⟨[0, 4, 11, 12, 13], [], [
    ⟨some 17, .mv (.t 0), none, false⟩,
    ⟨some 18, .nilChk (.t 17), none, false⟩,
    ⟨some 19, .fAddr 0 (.t 18), none, false⟩,
    ⟨some 20, .ld 1 false (.t 19), none, false⟩,
    ⟨some 21, .fAddr 0 (.t 4), none, false⟩,
    ⟨some 22, .ld 1 false (.t 21), none, false⟩,
    ⟨some 23, .fAddr 1 (.t 4), none, false⟩,
    ⟨some 24, .ld 1 false (.t 23), none, false⟩,
    ⟨some 25, .iAddr 1 (.t 20) (.t 22), none, false⟩,
    ⟨none, .st 1 (.t 25) (.t 24), none, false⟩], []⟩
@[simp] def r16_7 : AReg := ⟨[0, 11, 12, 13], [], [
    ⟨some 26, .bin .int .add (.t 13) (.c (.dat (.int .i64 1))), none, false⟩,
    ⟨some 13, .mv (.t 26), none, false⟩], []⟩
def l16_0 : AC := .seq (.reg r16_4) (.seq (.cond (.t 14) (.skip) (.exit 0)) (.seq (.block 1 (.seq (.reg r16_5) (.reg r16_6))) (.reg r16_7)))
@[simp] theorem l16_0e (K : Orc) (s : St) : exec K l16_0 s = exec K (.seq (.reg r16_4) (.seq (.cond (.t 14) (.skip) (.exit 0)) (.seq (.block 1 (.seq (.reg r16_5) (.reg r16_6))) (.reg r16_7)))) s := rfl
@[simp] def r16_8 : AReg := ⟨[0], [], [
    ⟨some 27, .mv (.t 0), none, false⟩,
    ⟨some 28, .nilChk (.t 27), none, false⟩,
    ⟨some 29, .fAddr 1 (.t 28), none, false⟩,
    ⟨none, .st 1 (.t 29) (.c .nils), none, false⟩], []⟩
@[simp] def r16_9 : AReg := ⟨[], [], [
    ⟨some 2, .mv (.c (.dat (.int .i64 0))), none, false⟩], []⟩
@[simp] def fn16 : AFun := ⟨1, [2], false,
  .seq (.reg r16_0) (.seq (.seq (.reg r16_1) (.cond (.t 7) (.seq (.reg r16_2) (.ret)) (.skip))) (.seq (.seq (.reg r16_3) (.block 0 (.loop l16_0))) (.seq (.reg r16_8) (.seq (.reg r16_9) (.ret))))), none⟩

theorem c16 : cFun Try.prog ann16 false 16 = some fn16 := by kernel_rfl

/-! 17: modelcheck/modelchecklaw50.small -/

def ann17 : Ann := [{ id := 0, live := [0, 1] },
  { id := 1, live := [0, 1] },
  { id := 2, live := [] },
  { id := 3, live := [0] },
  { id := 4, live := [0, 5] },
  { id := 6, live := [0, 5] },
  { id := 7, live := [] },
  { id := 5, live := [0, 5] },
  { id := 8, live := [] }]

@[simp] def r17_0 : AReg := ⟨[0, 1], [], [
    ⟨some 4, .mv (.c (.dat (.bool false))), none, false⟩], []⟩
@[simp] def r17_1 : AReg := ⟨[0, 1], [], [
    ⟨some 6, .mv (.t 0), none, false⟩,
    ⟨some 7, .len false (.t 6), none, false⟩,
    ⟨some 8, .bin .int .gtr (.t 7) (.c (.dat (.int .i64 30))), none, false⟩,
    ⟨some 9, .mv (.t 8), none, false⟩,
    ⟨some 10, .mv (.t 1), some (9, false), false⟩,
    ⟨some 11, .bin .int .gtr (.t 10) (.c (.dat (.int .i64 20))), some (9, false), false⟩,
    ⟨some 12, .pick (.t 9) (.c (.dat (.bool true))) (.t 11), none, false⟩], []⟩
@[simp] def r17_2 : AReg := ⟨[], [], [
    ⟨some 4, .mv (.c (.dat (.bool false))), none, false⟩], []⟩
@[simp] def r17_3 : AReg := ⟨[0], [], [
    ⟨some 5, .mv (.c (.dat (.int .i64 0))), none, false⟩], []⟩
@[simp] def r17_4 : AReg := ⟨[0, 5], [], [
    ⟨some 13, .mv (.t 5), none, false⟩,
    ⟨some 14, .mv (.t 0), none, false⟩,
    ⟨some 15, .len false (.t 14), none, false⟩,
    ⟨some 16, .bin .int .lss (.t 13) (.t 15), none, false⟩], []⟩
@[simp] def r17_5 : AReg := ⟨[0, 5], [], [
    ⟨some 19, .mv (.t 0), none, false⟩,
    ⟨some 20, .mv (.t 5), none, false⟩,
    ⟨some 21, .iAddr 4 (.t 19) (.t 20), none, false⟩,
    ⟨some 22, .fAddr 2 (.t 21), none, false⟩,
    ⟨some 23, .ld 1 false (.t 22), none, false⟩,
    ⟨some 24, .len false (.t 23), none, false⟩,
    ⟨some 25, .bin .int .gtr (.t 24) (.c (.dat (.int .i64 400))), none, false⟩,
    ⟨some 26, .mv (.t 25), none, false⟩,
    ⟨some 27, .mv (.t 0), some (26, false), false⟩,
    ⟨some 28, .mv (.t 5), some (26, false), false⟩,
    ⟨some 29, .iAddr 4 (.t 27) (.t 28), some (26, false), false⟩,
    ⟨some 30, .fAddr 3 (.t 29), some (26, false), false⟩,
    ⟨some 31, .ld 1 false (.t 30), some (26, false), false⟩,
    ⟨some 32, .len false (.t 31), some (26, false), false⟩,
    ⟨some 33, .bin .int .gtr (.t 32) (.c (.dat (.int .i64 40))), some (26, false), false⟩,
    ⟨some 34, .pick (.t 26) (.c (.dat (.bool true))) (.t 33), none, false⟩], []⟩
@[simp] def r17_6 : AReg := ⟨[], [], [
    ⟨some 4, .mv (.c (.dat (.bool false))), none, false⟩], []⟩
@[simp] def r17_7 : AReg := ⟨[0, 5], [], [
    ⟨some 17, .mv (.t 5), none, false⟩,
    ⟨some 18, .bin .int .add (.t 17) (.c (.dat (.int .i64 1))), none, false⟩,
    ⟨some 5, .mv (.t 18), none, false⟩], []⟩
def l17_0 : AC := .seq (.seq (.reg r17_4) (.cond (.t 16) (.skip) (.exit 0))) (.seq (.block 1 (.seq (.reg r17_5) (.cond (.t 34) (.seq (.reg r17_6) (.ret)) (.skip)))) (.reg r17_7))
@[simp] theorem l17_0e (K : Orc) (s : St) : exec K l17_0 s = exec K (.seq (.seq (.reg r17_4) (.cond (.t 16) (.skip) (.exit 0))) (.seq (.block 1 (.seq (.reg r17_5) (.cond (.t 34) (.seq (.reg r17_6) (.ret)) (.skip)))) (.reg r17_7))) s := rfl
@[simp] def r17_8 : AReg := ⟨[], [], [
    ⟨some 4, .mv (.c (.dat (.bool true))), none, false⟩], []⟩
@[simp] def fn17 : AFun := ⟨2, [4], false,
  .seq (.reg r17_0) (.seq (.seq (.reg r17_1) (.cond (.t 12) (.seq (.reg r17_2) (.ret)) (.skip))) (.seq (.seq (.reg r17_3) (.block 0 (.loop l17_0))) (.seq (.reg r17_8) (.ret)))), none⟩

theorem c17 : cFun Try.prog ann17 false 17 = some fn17 := by kernel_rfl

/-! 18: modelcheck/modelcheckref50.NewDisk -/

def ann18 : Ann := [{ id := 0, live := [0] },
  { id := 1, live := [0] },
  { id := 2, live := [] },
  { id := 3, live := [0] },
  { id := 4, live := [0, 4] },
  { id := 5, live := [0, 4, 5], drop := [4] },
  { id := 7, live := [0, 4, 5], marks := [(7, { md := .o })] },
  { id := 6, live := [0, 4, 5] },
  { id := 8, live := [4] }]

@[simp] def r18_0 : AReg := ⟨[0], [], [
    ⟨some 2, .mv (.c .nilp), none, false⟩,
    ⟨some 3, .mv (.c (.dat (.int .i64 0))), none, false⟩], []⟩
@[simp] def r18_1 : AReg := ⟨[0], [], [
    ⟨some 6, .mv (.t 0), none, false⟩,
    ⟨some 7, .bin .int .lss (.t 6) (.c (.dat (.int .i64 1))), none, false⟩,
    ⟨some 8, .mv (.t 7), none, false⟩,
    ⟨some 9, .mv (.t 0), some (8, false), false⟩,
    ⟨some 10, .bin .int .gtr (.t 9) (.c (.dat (.int .i64 4096))), some (8, false), false⟩,
    ⟨some 11, .pick (.t 8) (.c (.dat (.bool true))) (.t 10), none, false⟩], []⟩
@[simp] def r18_2 : AReg := ⟨[], [], [
    ⟨some 2, .mv (.c .nilp), none, false⟩,
    ⟨some 3, .mv (.c (.dat (.int .i64 2))), none, false⟩], []⟩
@[simp] def r18_3 : AReg := ⟨[0], [], [
    ⟨some 12, .bld [.nils, .nils, (.dat (.int .i64 0)), (.dat (.int .i64 0)), (.dat (.bool false))] [(4, 1, (.c (.dat (.bool true))))], none, false⟩,
    ⟨some 13, .box 5 (.t 12), none, false⟩,
    ⟨some 4, .mv (.t 13), none, false⟩], []⟩
@[simp] def r18_4 : AReg := ⟨[0, 4], [], [
    ⟨some 5, .mv (.c (.dat (.int .i64 0))), none, false⟩], []⟩
@[simp] def r18_5 : AReg := ⟨[0, 4, 5], [4], [
    ⟨some 14, .mv (.t 5), none, false⟩,
    ⟨some 15, .mv (.t 0), none, false⟩,
    ⟨some 16, .bin .int .lss (.t 14) (.t 15), none, false⟩], []⟩
@[simp] def r18_6 : AReg := ⟨[0, 4, 5], [], [
    ⟨some 19, .mv (.t 4), none, false⟩,
    ⟨some 20, .mv (.t 4), none, false⟩,
    ⟨some 21, .nilChk (.t 20), none, false⟩,
    ⟨some 22, .fAddr 0 (.t 21), none, false⟩,
    ⟨some 23, .ld 1 false (.t 22), none, true⟩,
    ⟨some 24, .mk .d 1 1 [(.dat (.int .u8 0))] (.c (.dat (.int .i64 64))) (.c (.dat (.int .i64 64))), none, false⟩,
    ⟨some 25, .bldS .d 1 [(.t 24)], none, true⟩,
    ⟨some 26, .app .o 1 24 (.t 23) (.t 25), none, false⟩,
    ⟨some 27, .nilChk (.t 19), none, false⟩,
    ⟨some 28, .fAddr 0 (.t 27), none, false⟩,
    ⟨none, .st 1 (.t 28) (.t 26), none, false⟩], [(4, 6)]⟩
@[simp] def r18_7 : AReg := ⟨[0, 4, 5], [], [
    ⟨some 17, .mv (.t 5), none, false⟩,
    ⟨some 18, .bin .int .add (.t 17) (.c (.dat (.int .i64 1))), none, false⟩,
    ⟨some 5, .mv (.t 18), none, false⟩], []⟩
def l18_0 : AC := .seq (.seq (.reg r18_5) (.cond (.t 16) (.skip) (.exit 0))) (.seq (.block 1 (.reg r18_6)) (.reg r18_7))
@[simp] theorem l18_0e (K : Orc) (s : St) : exec K l18_0 s = exec K (.seq (.seq (.reg r18_5) (.cond (.t 16) (.skip) (.exit 0))) (.seq (.block 1 (.reg r18_6)) (.reg r18_7))) s := rfl
@[simp] def r18_8 : AReg := ⟨[4], [], [
    ⟨some 29, .mv (.t 4), none, false⟩,
    ⟨some 2, .mv (.t 29), none, false⟩,
    ⟨some 3, .mv (.c (.dat (.int .i64 0))), none, false⟩], []⟩
@[simp] def fn18 : AFun := ⟨1, [2, 3], false,
  .seq (.reg r18_0) (.seq (.seq (.reg r18_1) (.cond (.t 11) (.seq (.reg r18_2) (.ret)) (.skip))) (.seq (.reg r18_3) (.seq (.seq (.reg r18_4) (.block 0 (.loop l18_0))) (.seq (.reg r18_8) (.ret))))), none⟩

theorem c18 : cFun Try.prog ann18 false 18 = some fn18 := by kernel_rfl

/-! 19: modelcheck/modelchecklaw50.sector -/

def ann19 : Ann := [{ id := 0, live := [0] },
  { id := 1, live := [0], marks := [(0, { md := .o })] },
  { id := 2, live := [0, 3] },
  { id := 3, live := [3] }]

@[simp] def r19_0 : AReg := ⟨[0], [], [
    ⟨some 2, .mv (.c .nils), none, false⟩], []⟩
@[simp] def r19_1 : AReg := ⟨[0], [], [
    ⟨some 4, .mk .o 1 1 [(.dat (.int .u8 0))] (.c (.dat (.int .i64 64))) (.c (.dat (.int .i64 64))), none, false⟩,
    ⟨some 3, .mv (.t 4), none, false⟩], []⟩
@[simp] def r19_2 : AReg := ⟨[0, 3], [], [
    ⟨some 5, .mv (.t 3), none, false⟩,
    ⟨some 6, .mv (.t 0), none, false⟩,
    ⟨some 7, .cpy 1 (.t 5) (.t 6), none, false⟩], []⟩
@[simp] def r19_3 : AReg := ⟨[3], [], [
    ⟨some 8, .mv (.t 3), none, false⟩,
    ⟨some 2, .mv (.t 8), none, false⟩], []⟩
@[simp] def fn19 : AFun := ⟨1, [2], false,
  .seq (.reg r19_0) (.seq (.reg r19_1) (.seq (.reg r19_2) (.seq (.reg r19_3) (.ret)))), none⟩

theorem c19 : cFun Try.prog ann19 false 19 = some fn19 := by kernel_rfl

/-! 20: (*modelcheck/modelcheckref50.Disk).Write -/

def ann20 : Ann := [{ id := 0, live := [0, 1, 2] },
  { id := 1, live := [0, 1, 2] },
  { id := 2, live := [] },
  { id := 3, live := [0, 1, 2] },
  { id := 4, live := [] },
  { id := 5, live := [0, 1, 2] },
  { id := 6, live := [] },
  { id := 7, live := [0, 1, 2], marks := [(6, { md := .o }), (8, { md := .o }), (11, { md := .o })] },
  { id := 8, live := [] }]

@[simp] def r20_0 : AReg := ⟨[0, 1, 2], [], [
    ⟨some 6, .mv (.c (.dat (.int .i64 0))), none, false⟩], []⟩
@[simp] def r20_1 : AReg := ⟨[0, 1, 2], [], [
    ⟨some 7, .mv (.t 0), none, false⟩,
    ⟨some 8, .bin .ptr .eql (.t 7) (.c .nilp), none, false⟩,
    ⟨some 9, .mv (.t 8), none, false⟩,
    ⟨some 10, .mv (.t 0), some (9, false), false⟩,
    ⟨some 11, .nilChk (.t 10), some (9, false), false⟩,
    ⟨some 12, .fAddr 4 (.t 11), some (9, false), false⟩,
    ⟨some 13, .ld 1 false (.t 12), some (9, false), false⟩,
    ⟨some 14, .un .not (.t 13), some (9, false), false⟩,
    ⟨some 15, .pick (.t 9) (.c (.dat (.bool true))) (.t 14), none, false⟩], []⟩
@[simp] def r20_2 : AReg := ⟨[], [], [
    ⟨some 6, .mv (.c (.dat (.int .i64 23))), none, false⟩], []⟩
@[simp] def r20_3 : AReg := ⟨[0, 1, 2], [], [
    ⟨some 16, .mv (.t 1), none, false⟩,
    ⟨some 17, .bin .int .lss (.t 16) (.c (.dat (.int .i64 0))), none, false⟩,
    ⟨some 18, .mv (.t 17), none, false⟩,
    ⟨some 19, .mv (.t 1), some (18, false), false⟩,
    ⟨some 20, .mv (.t 0), some (18, false), false⟩,
    ⟨some 21, .nilChk (.t 20), some (18, false), false⟩,
    ⟨some 22, .fAddr 0 (.t 21), some (18, false), false⟩,
    ⟨some 23, .ld 1 false (.t 22), some (18, false), false⟩,
    ⟨some 24, .len false (.t 23), some (18, false), false⟩,
    ⟨some 25, .bin .int .geq (.t 19) (.t 24), some (18, false), false⟩,
    ⟨some 26, .pick (.t 18) (.c (.dat (.bool true))) (.t 25), none, false⟩], []⟩
@[simp] def r20_4 : AReg := ⟨[], [], [
    ⟨some 6, .mv (.c (.dat (.int .i64 2))), none, false⟩], []⟩
@[simp] def r20_5 : AReg := ⟨[0, 1, 2], [], [
    ⟨some 27, .mv (.t 2), none, false⟩,
    ⟨some 28, .len false (.t 27), none, false⟩,
    ⟨some 29, .bin .int .neq (.t 28) (.c (.dat (.int .i64 64))), none, false⟩], []⟩
@[simp] def r20_6 : AReg := ⟨[], [], [
    ⟨some 6, .mv (.c (.dat (.int .i64 1))), none, false⟩], []⟩
@[simp] def r20_7 : AReg := ⟨[0, 1, 2], [], [
    ⟨some 30, .mv (.t 0), none, false⟩,
    ⟨some 31, .mv (.t 0), none, false⟩,
    ⟨some 32, .nilChk (.t 31), none, false⟩,
    ⟨some 33, .fAddr 1 (.t 32), none, false⟩,
    ⟨some 34, .ld 1 false (.t 33), none, true⟩,
    ⟨some 35, .mv (.t 1), none, false⟩,
    ⟨some 36, .bldS .o 1 [], none, true⟩,
    ⟨some 37, .mv (.t 2), none, false⟩,
    ⟨some 38, .app .o 1 1 (.t 36) (.t 37), none, true⟩,
    ⟨some 39, .bld [(.dat (.int .i64 0)), .nils] [(0, 1, (.t 35)), (1, 1, (.t 38))], none, false⟩,
    ⟨some 40, .bldS .d 2 [(.t 39)], none, true⟩,
    ⟨some 41, .app .o 2 32 (.t 34) (.t 40), none, false⟩,
    ⟨some 42, .nilChk (.t 30), none, false⟩,
    ⟨some 43, .fAddr 1 (.t 42), none, false⟩,
    ⟨none, .st 1 (.t 43) (.t 41), none, false⟩], [(4, 6), (4, 8), (4, 10)]⟩
@[simp] def r20_8 : AReg := ⟨[], [], [
    ⟨some 6, .mv (.c (.dat (.int .i64 0))), none, false⟩], []⟩
@[simp] def fn20 : AFun := ⟨3, [6], false,
  .seq (.reg r20_0) (.seq (.seq (.reg r20_1) (.cond (.t 15) (.seq (.reg r20_2) (.ret)) (.skip))) (.seq (.seq (.reg r20_3) (.cond (.t 26) (.seq (.reg r20_4) (.ret)) (.skip))) (.seq (.seq (.reg r20_5) (.cond (.t 29) (.seq (.reg r20_6) (.ret)) (.skip))) (.seq (.reg r20_7) (.seq (.reg r20_8) (.ret)))))), none⟩

theorem c20 : cFun Try.prog ann20 false 20 = some fn20 := by kernel_rfl

/-! 21: (*modelcheck/modelcheckref50.Disk).Sync -/

def ann21 : Ann := [{ id := 0, live := [0] },
  { id := 1, live := [0] },
  { id := 2, live := [] },
  { id := 3, live := [0] },
  { id := 4, live := [0, 3] },
  { id := 6, live := [0, 3] },
  { id := 5, live := [0, 3] },
  { id := 7, live := [0] },
  { id := 8, live := [] }]

@[simp] def r21_0 : AReg := ⟨[0], [], [
    ⟨some 2, .mv (.c (.dat (.int .i64 0))), none, false⟩], []⟩
@[simp] def r21_1 : AReg := ⟨[0], [], [
    ⟨some 4, .mv (.t 0), none, false⟩,
    ⟨some 5, .bin .ptr .eql (.t 4) (.c .nilp), none, false⟩,
    ⟨some 6, .mv (.t 5), none, false⟩,
    ⟨some 7, .mv (.t 0), some (6, false), false⟩,
    ⟨some 8, .nilChk (.t 7), some (6, false), false⟩,
    ⟨some 9, .fAddr 4 (.t 8), some (6, false), false⟩,
    ⟨some 10, .ld 1 false (.t 9), some (6, false), false⟩,
    ⟨some 11, .un .not (.t 10), some (6, false), false⟩,
    ⟨some 12, .pick (.t 6) (.c (.dat (.bool true))) (.t 11), none, false⟩], []⟩
@[simp] def r21_2 : AReg := ⟨[], [], [
    ⟨some 2, .mv (.c (.dat (.int .i64 23))), none, false⟩], []⟩
@[simp] def r21_3 : AReg := ⟨[0], [], [
    ⟨some 3, .mv (.c (.dat (.int .i64 0))), none, false⟩], []⟩
@[simp] def r21_4 : AReg := ⟨[0, 3], [], [
    ⟨some 13, .mv (.t 3), none, false⟩,
    ⟨some 14, .mv (.t 0), none, false⟩,
    ⟨some 15, .nilChk (.t 14), none, false⟩,
    ⟨some 16, .fAddr 1 (.t 15), none, false⟩,
    ⟨some 17, .ld 1 false (.t 16), none, false⟩,
    ⟨some 18, .len false (.t 17), none, false⟩,
    ⟨some 19, .bin .int .lss (.t 13) (.t 18), none, false⟩], []⟩
@[simp] def r21_5 : AReg := ⟨[0, 3], [], [
    ⟨some 22, .mv (.t 0), none, false⟩,
    ⟨some 23, .nilChk (.t 22), none, false⟩,
    ⟨some 24, .fAddr 0 (.t 23), none, false⟩,
    ⟨some 25, .ld 1 false (.t 24), none, false⟩,
    ⟨some 26, .mv (.t 0), none, false⟩,
    ⟨some 27, .nilChk (.t 26), none, false⟩,
    ⟨some 28, .fAddr 1 (.t 27), none, false⟩,
    ⟨some 29, .ld 1 false (.t 28), none, false⟩,
    ⟨some 30, .mv (.t 3), none, false⟩,
    ⟨some 31, .iAddr 2 (.t 29) (.t 30), none, false⟩,
    ⟨some 32, .fAddr 0 (.t 31), none, false⟩,
    ⟨some 33, .ld 1 false (.t 32), none, false⟩,
    ⟨some 34, .mv (.t 0), none, false⟩,
    ⟨some 35, .nilChk (.t 34), none, false⟩,
    ⟨some 36, .fAddr 1 (.t 35), none, false⟩,
    ⟨some 37, .ld 1 false (.t 36), none, false⟩,
    ⟨some 38, .mv (.t 3), none, false⟩,
    ⟨some 39, .iAddr 2 (.t 37) (.t 38), none, false⟩,
    ⟨some 40, .fAddr 1 (.t 39), none, false⟩,
    ⟨some 41, .ld 1 false (.t 40), none, false⟩,
    ⟨some 42, .iAddr 1 (.t 25) (.t 33), none, false⟩,
    ⟨none, .st 1 (.t 42) (.t 41), none, false⟩], []⟩
@[simp] def r21_6 : AReg := ⟨[0, 3], [], [
    ⟨some 20, .mv (.t 3), none, false⟩,
    ⟨some 21, .bin .int .add (.t 20) (.c (.dat (.int .i64 1))), none, false⟩,
    ⟨some 3, .mv (.t 21), none, false⟩], []⟩
def l21_0 : AC := .seq (.seq (.reg r21_4) (.cond (.t 19) (.skip) (.exit 0))) (.seq (.block 1 (.reg r21_5)) (.reg r21_6))
@[simp] theorem l21_0e (K : Orc) (s : St) : exec K l21_0 s = exec K (.seq (.seq (.reg r21_4) (.cond (.t 19) (.skip) (.exit 0))) (.seq (.block 1 (.reg r21_5)) (.reg r21_6))) s := rfl
@[simp] def r21_7 : AReg := ⟨[0], [], [
    ⟨some 43, .mv (.t 0), none, false⟩,
    ⟨some 44, .nilChk (.t 43), none, false⟩,
    ⟨some 45, .fAddr 1 (.t 44), none, false⟩,
    ⟨none, .st 1 (.t 45) (.c .nils), none, false⟩], []⟩
@[simp] def r21_8 : AReg := ⟨[], [], [
    ⟨some 2, .mv (.c (.dat (.int .i64 0))), none, false⟩], []⟩
@[simp] def fn21 : AFun := ⟨1, [2], false,
  .seq (.reg r21_0) (.seq (.seq (.reg r21_1) (.cond (.t 12) (.seq (.reg r21_2) (.ret)) (.skip))) (.seq (.seq (.reg r21_3) (.block 0 (.loop l21_0))) (.seq (.reg r21_7) (.seq (.reg r21_8) (.ret))))), none⟩

theorem c21 : cFun Try.prog ann21 false 21 = some fn21 := by kernel_rfl

/-! 22: (*modelcheck/journal.Disk).Crash -/

def ann22 : Ann := [{ id := 0, live := [0, 1] },
  { id := 1, live := [0, 1], marks := [(1, { byRef := [0] })] },
  { id := 2, live := [] },
  { id := 3, live := [0, 1], marks := [(5, { md := .o })] },
  { id := 4, live := [0, 1, 5] },
  { id := 5, live := [0, 5, 19, 20, 21] },
  { id := 6, live := [0, 5, 19, 20, 21] },
  { id := 7, live := [0, 5, 7, 19, 20, 21] },
  { id := 8, live := [] },
  { id := 9, live := [0, 5, 7, 19, 20, 21] },
  { id := 10, live := [0, 5, 19, 20, 21] },
  { id := 11, live := [0, 5] },
  { id := 12, live := [0, 5, 40, 41, 42], drop := [0, 5, 40] },
  { id := 13, live := [0, 5, 40, 41, 42] },
  { id := 14, live := [0, 5, 8, 9, 40, 41, 42] },
  { id := 15, live := [0, 5, 9, 40, 41, 42] },
  { id := 16, live := [0, 5, 40, 41, 42] },
  { id := 17, live := [0] },
  { id := 18, live := [0] },
  { id := 19, live := [] }]

@[simp] def r22_0 : AReg := ⟨[0, 1], [], [
    ⟨some 4, .mv (.c (.dat (.int .i64 0))), none, false⟩], []⟩
@[simp] def r22_1 : AReg := ⟨[0, 1], [], [
    ⟨some 10, .mv (.t 0), none, false⟩,
    ⟨some 11, .call 34 [((.t 10), true)] true, none, false⟩,
    ⟨some 12, .un .not (.t 11), none, false⟩], []⟩
@[simp] def r22_2 : AReg := ⟨[], [], [
    ⟨some 4, .mv (.c (.dat (.int .i64 23))), none, false⟩], []⟩
@[simp] def r22_3 : AReg := ⟨[0, 1], [], [
    ⟨some 13, .mv (.t 0), none, false⟩,
    ⟨some 14, .nilChk (.t 13), none, false⟩,
    ⟨some 15, .fAddr 1 (.t 14), none, false⟩,
    ⟨some 16, .ld 1 false (.t 15), none, false⟩,
    ⟨some 17, .len false (.t 16), none, false⟩,
    ⟨some 18, .mk .o 1 1 [(.dat (.bool false))] (.t 17) (.t 17), none, false⟩,
    ⟨some 5, .mv (.t 18), none, false⟩], []⟩
@[simp] def r22_4 : AReg := ⟨[0, 1, 5], [], [
    ⟨some 19, .mv (.t 1), none, false⟩,
    ⟨some 20, .len false (.t 19), none, false⟩,
    ⟨some 21, .mv (.c (.dat (.int .i64 0))), none, false⟩], []⟩
@[simp] def r22_5 : AReg := ⟨[0, 5, 19, 20, 21], [], [
    ⟨some 22, .bin .int .lss (.t 21) (.t 20), none, false⟩], []⟩
@[simp] def r22_6 : AReg := ⟨[0, 5, 19, 20, 21], [], [
    ⟨some 23, .iAddr 1 (.t 19) (.t 21), none, false⟩,
    ⟨some 24, .ld 1 false (.t 23), none, false⟩,
    ⟨some 7, .mv (.t 24), none, false⟩], []⟩
@[simp] def r22_7 : AReg := ⟨[0, 5, 7, 19, 20, 21], [], [
    ⟨some 25, .mv (.t 7), none, false⟩,
    ⟨some 26, .bin .int .lss (.t 25) (.c (.dat (.int .i64 0))), none, false⟩,
    ⟨some 27, .mv (.t 26), none, false⟩,
    ⟨some 28, .mv (.t 7), some (27, false), false⟩,
    ⟨some 29, .mv (.t 5), some (27, false), false⟩,
    ⟨some 30, .len false (.t 29), some (27, false), false⟩,
    ⟨some 31, .bin .int .geq (.t 28) (.t 30), some (27, false), false⟩,
    ⟨some 32, .pick (.t 27) (.c (.dat (.bool true))) (.t 31), none, false⟩], []⟩
@[simp] def r22_8 : AReg := ⟨[], [], [
    ⟨some 4, .mv (.c (.dat (.int .i64 2))), none, false⟩], []⟩
@[simp] def r22_9 : AReg := ⟨[0, 5, 7, 19, 20, 21], [], [
    ⟨some 33, .mv (.t 5), none, false⟩,
    ⟨some 34, .mv (.t 7), none, false⟩,
    ⟨some 35, .iAddr 1 (.t 33) (.t 34), none, false⟩,
    ⟨none, .st 1 (.t 35) (.c (.dat (.bool true))), none, false⟩], []⟩
@[simp] def r22_10 : AReg := ⟨[0, 5, 19, 20, 21], [], [
    ⟨some 36, .bin .int .add (.t 21) (.c (.dat (.int .i64 1))), none, false⟩,
    ⟨some 21, .mv (.t 36), none, false⟩], []⟩
def l22_0 : AC := .seq (.reg r22_5) (.seq (.cond (.t 22) (.skip) (.exit 0)) (.seq (.block 1 (.seq (.reg r22_6) (.seq (.seq (.reg r22_7) (.cond (.t 32) (.seq (.reg r22_8) (.ret)) (.skip))) (.reg r22_9)))) (.reg r22_10)))
@[simp] theorem l22_0e (K : Orc) (s : St) : exec K l22_0 s = exec K (.seq (.reg r22_5) (.seq (.cond (.t 22) (.skip) (.exit 0)) (.seq (.block 1 (.seq (.reg r22_6) (.seq (.seq (.reg r22_7) (.cond (.t 32) (.seq (.reg r22_8) (.ret)) (.skip))) (.reg r22_9)))) (.reg r22_10)))) s := rfl
@[simp] def r22_11 : AReg := ⟨[0, 5], [], [
    ⟨some 37, .mv (.t 0), none, false⟩,
    ⟨some 38, .nilChk (.t 37), none, false⟩,
    ⟨some 39, .fAddr 1 (.t 38), none, false⟩,
    ⟨some 40, .ld 1 false (.t 39), none, false⟩,
    ⟨some 41, .len false (.t 40), none, false⟩,
    ⟨some 42, .mv (.c (.dat (.int .i64 0))), none, false⟩], []⟩
@[simp] def r22_12 : AReg := ⟨[0, 5, 40, 41, 42], [0, 5, 40], [
    ⟨some 43, .bin .int .lss (.t 42) (.t 41), none, false⟩], []⟩
@[simp] def r22_13 : AReg := ⟨[0, 5, 40, 41, 42], [], [
    ⟨some 44, .mv (.t 42), none, false⟩,
    ⟨some 45, .iAddr 2 (.t 40) (.t 42), none, false⟩,
    ⟨some 46, .ld 2 true (.t 45), none, false⟩,
    ⟨some 9, .alc [(.dat (.int .i64 0)), .nils], none, false⟩,
    ⟨some 8, .mv (.t 44), none, false⟩,
    ⟨none, .st 2 (.t 9) (.t 46), none, false⟩], []⟩
@[simp] def r22_14 : AReg := ⟨[0, 5, 8, 9, 40, 41, 42], [], [
    ⟨some 47, .mv (.t 5), none, false⟩,
    ⟨some 48, .mv (.t 8), none, false⟩,
    ⟨some 49, .iAddr 1 (.t 47) (.t 48), none, false⟩,
    ⟨some 50, .ld 1 false (.t 49), none, false⟩], []⟩
@[simp] def r22_15 : AReg := ⟨[0, 5, 9, 40, 41, 42], [], [
    ⟨some 51, .mv (.t 0), none, false⟩,
    ⟨some 52, .nilChk (.t 51), none, false⟩,
    ⟨some 53, .fAddr 0 (.t 52), none, false⟩,
    ⟨some 54, .ld 1 false (.t 53), none, false⟩,
    ⟨some 55, .fAddr 0 (.t 9), none, false⟩,
    ⟨some 56, .ld 1 false (.t 55), none, false⟩,
    ⟨some 57, .fAddr 1 (.t 9), none, false⟩,
    ⟨some 58, .ld 1 false (.t 57), none, false⟩,
    ⟨some 59, .iAddr 1 (.t 54) (.t 56), none, false⟩,
    ⟨none, .st 1 (.t 59) (.t 58), none, false⟩], []⟩
@[simp] def r22_16 : AReg := ⟨[0, 5, 40, 41, 42], [], [
    ⟨some 60, .bin .int .add (.t 42) (.c (.dat (.int .i64 1))), none, false⟩,
    ⟨some 42, .mv (.t 60), none, false⟩], []⟩
def l22_1 : AC := .seq (.reg r22_12) (.seq (.cond (.t 43) (.skip) (.exit 2)) (.seq (.block 3 (.seq (.reg r22_13) (.seq (.reg r22_14) (.cond (.t 50) (.reg r22_15) (.skip))))) (.reg r22_16)))
@[simp] theorem l22_1e (K : Orc) (s : St) : exec K l22_1 s = exec K (.seq (.reg r22_12) (.seq (.cond (.t 43) (.skip) (.exit 2)) (.seq (.block 3 (.seq (.reg r22_13) (.seq (.reg r22_14) (.cond (.t 50) (.reg r22_15) (.skip))))) (.reg r22_16)))) s := rfl
@[simp] def r22_17 : AReg := ⟨[0], [], [
    ⟨some 61, .mv (.t 0), none, false⟩,
    ⟨some 62, .nilChk (.t 61), none, false⟩,
    ⟨some 63, .fAddr 1 (.t 62), none, false⟩,
    ⟨none, .st 1 (.t 63) (.c .nils), none, false⟩], []⟩
@[simp] def r22_18 : AReg := ⟨[0], [], [
    ⟨some 64, .mv (.t 0), none, false⟩,
    ⟨some 65, .nilChk (.t 64), none, false⟩,
    ⟨some 66, .fAddr 2 (.t 65), none, false⟩,
    ⟨some 67, .ld 1 false (.t 66), none, false⟩,
    ⟨some 68, .bin .int .add (.t 67) (.c (.dat (.int .i64 1))), none, false⟩,
    ⟨some 69, .nilChk (.t 64), none, false⟩,
    ⟨some 70, .fAddr 2 (.t 69), none, false⟩,
    ⟨none, .st 1 (.t 70) (.t 68), none, false⟩], []⟩
@[simp] def r22_19 : AReg := ⟨[], [], [
    ⟨some 4, .mv (.c (.dat (.int .i64 0))), none, false⟩], []⟩
@[simp] def fn22 : AFun := ⟨2, [4], false,
  .seq (.reg r22_0) (.seq (.seq (.reg r22_1) (.cond (.t 12) (.seq (.reg r22_2) (.ret)) (.skip))) (.seq (.reg r22_3) (.seq (.seq (.reg r22_4) (.block 0 (.loop l22_0))) (.seq (.seq (.reg r22_11) (.block 2 (.loop l22_1))) (.seq (.reg r22_17) (.seq (.reg r22_18) (.seq (.reg r22_19) (.ret)))))))), none⟩

theorem c22 : cFun Try.prog ann22 false 22 = some fn22 := by kernel_rfl

/-! 23: (*modelcheck/modelcheckref50.Disk).Crash -/

def ann23 : Ann := [{ id := 0, live := [0, 1] },
  { id := 1, live := [0, 1] },
  { id := 2, live := [] },
  { id := 3, live := [0, 1] },
  { id := 4, live := [0, 1, 5] },
  { id := 6, live := [0, 1, 5] },
  { id := 7, live := [] },
  { id := 5, live := [0, 1, 5] },
  { id := 8, live := [0, 1] },
  { id := 9, live := [0, 1, 6] },
  { id := 11, live := [0, 1, 6] },
  { id := 12, live := [0, 1, 6, 7] },
  { id := 13, live := [0, 1, 6, 7, 8] },
  { id := 15, live := [0, 1, 6, 7, 8] },
  { id := 14, live := [0, 1, 6, 7, 8] },
  { id := 16, live := [0, 1, 6, 7] },
  { id := 17, live := [0, 1, 6] },
  { id := 10, live := [0, 1, 6] },
  { id := 18, live := [0] },
  { id := 19, live := [0] },
  { id := 20, live := [] }]

@[simp] def r23_0 : AReg := ⟨[0, 1], [], [
    ⟨some 4, .mv (.c (.dat (.int .i64 0))), none, false⟩], []⟩
@[simp] def r23_1 : AReg := ⟨[0, 1], [], [
    ⟨some 9, .mv (.t 0), none, false⟩,
    ⟨some 10, .bin .ptr .eql (.t 9) (.c .nilp), none, false⟩,
    ⟨some 11, .mv (.t 10), none, false⟩,
    ⟨some 12, .mv (.t 0), some (11, false), false⟩,
    ⟨some 13, .nilChk (.t 12), some (11, false), false⟩,
    ⟨some 14, .fAddr 4 (.t 13), some (11, false), false⟩,
    ⟨some 15, .ld 1 false (.t 14), some (11, false), false⟩,
    ⟨some 16, .un .not (.t 15), some (11, false), false⟩,
    ⟨some 17, .pick (.t 11) (.c (.dat (.bool true))) (.t 16), none, false⟩], []⟩
@[simp] def r23_2 : AReg := ⟨[], [], [
    ⟨some 4, .mv (.c (.dat (.int .i64 23))), none, false⟩], []⟩
@[simp] def r23_3 : AReg := ⟨[0, 1], [], [
    ⟨some 5, .mv (.c (.dat (.int .i64 0))), none, false⟩], []⟩
@[simp] def r23_4 : AReg := ⟨[0, 1, 5], [], [
    ⟨some 18, .mv (.t 5), none, false⟩,
    ⟨some 19, .mv (.t 1), none, false⟩,
    ⟨some 20, .len false (.t 19), none, false⟩,
    ⟨some 21, .bin .int .lss (.t 18) (.t 20), none, false⟩], []⟩
@[simp] def r23_5 : AReg := ⟨[0, 1, 5], [], [
    ⟨some 24, .mv (.t 1), none, false⟩,
    ⟨some 25, .mv (.t 5), none, false⟩,
    ⟨some 26, .iAddr 1 (.t 24) (.t 25), none, false⟩,
    ⟨some 27, .ld 1 false (.t 26), none, false⟩,
    ⟨some 28, .bin .int .lss (.t 27) (.c (.dat (.int .i64 0))), none, false⟩,
    ⟨some 29, .mv (.t 28), none, false⟩,
    ⟨some 30, .mv (.t 1), some (29, false), false⟩,
    ⟨some 31, .mv (.t 5), some (29, false), false⟩,
    ⟨some 32, .iAddr 1 (.t 30) (.t 31), some (29, false), false⟩,
    ⟨some 33, .ld 1 false (.t 32), some (29, false), false⟩,
    ⟨some 34, .mv (.t 0), some (29, false), false⟩,
    ⟨some 35, .nilChk (.t 34), some (29, false), false⟩,
    ⟨some 36, .fAddr 1 (.t 35), some (29, false), false⟩,
    ⟨some 37, .ld 1 false (.t 36), some (29, false), false⟩,
    ⟨some 38, .len false (.t 37), some (29, false), false⟩,
    ⟨some 39, .bin .int .geq (.t 33) (.t 38), some (29, false), false⟩,
    ⟨some 40, .pick (.t 29) (.c (.dat (.bool true))) (.t 39), none, false⟩], []⟩
@[simp] def r23_6 : AReg := ⟨[], [], [
    ⟨some 4, .mv (.c (.dat (.int .i64 2))), none, false⟩], []⟩
@[simp] def r23_7 : AReg := ⟨[0, 1, 5], [], [
    ⟨some 22, .mv (.t 5), none, false⟩,
    ⟨some 23, .bin .int .add (.t 22) (.c (.dat (.int .i64 1))), none, false⟩,
    ⟨some 5, .mv (.t 23), none, false⟩], []⟩
def l23_0 : AC := .seq (.seq (.reg r23_4) (.cond (.t 21) (.skip) (.exit 0))) (.seq (.block 1 (.seq (.reg r23_5) (.cond (.t 40) (.seq (.reg r23_6) (.ret)) (.skip)))) (.reg r23_7))
@[simp] theorem l23_0e (K : Orc) (s : St) : exec K l23_0 s = exec K (.seq (.seq (.reg r23_4) (.cond (.t 21) (.skip) (.exit 0))) (.seq (.block 1 (.seq (.reg r23_5) (.cond (.t 40) (.seq (.reg r23_6) (.ret)) (.skip)))) (.reg r23_7))) s := rfl
@[simp] def r23_8 : AReg := ⟨[0, 1], [], [
    ⟨some 6, .mv (.c (.dat (.int .i64 0))), none, false⟩], []⟩
@[simp] def r23_9 : AReg := ⟨[0, 1, 6], [], [
    ⟨some 41, .mv (.t 6), none, false⟩,
    ⟨some 42, .mv (.t 0), none, false⟩,
    ⟨some 43, .nilChk (.t 42), none, false⟩,
    ⟨some 44, .fAddr 1 (.t 43), none, false⟩,
    ⟨some 45, .ld 1 false (.t 44), none, false⟩,
    ⟨some 46, .len false (.t 45), none, false⟩,
    ⟨some 47, .bin .int .lss (.t 41) (.t 46), none, false⟩], []⟩
@[simp] def r23_10 : AReg := ⟨[0, 1, 6], [], [
    ⟨some 7, .mv (.c (.dat (.bool false))), none, false⟩], []⟩
@[simp] def r23_11 : AReg := ⟨[0, 1, 6, 7], [], [
    ⟨some 8, .mv (.c (.dat (.int .i64 0))), none, false⟩], []⟩
@[simp] def r23_12 : AReg := ⟨[0, 1, 6, 7, 8], [], [
    ⟨some 50, .mv (.t 8), none, false⟩,
    ⟨some 51, .mv (.t 1), none, false⟩,
    ⟨some 52, .len false (.t 51), none, false⟩,
    ⟨some 53, .bin .int .lss (.t 50) (.t 52), none, false⟩], []⟩
@[simp] def r23_13 : AReg := ⟨[0, 1, 6, 7, 8], [], [
    ⟨some 56, .mv (.t 7), none, false⟩,
    ⟨some 57, .mv (.t 56), none, false⟩,
    ⟨some 58, .mv (.t 1), some (57, false), false⟩,
    ⟨some 59, .mv (.t 8), some (57, false), false⟩,
    ⟨some 60, .iAddr 1 (.t 58) (.t 59), some (57, false), false⟩,
    ⟨some 61, .ld 1 false (.t 60), some (57, false), false⟩,
    ⟨some 62, .mv (.t 6), some (57, false), false⟩,
    ⟨some 63, .bin .int .eql (.t 61) (.t 62), some (57, false), false⟩,
    ⟨some 64, .pick (.t 57) (.c (.dat (.bool true))) (.t 63), none, false⟩,
    ⟨some 7, .mv (.t 64), none, false⟩], []⟩
@[simp] def r23_14 : AReg := ⟨[0, 1, 6, 7, 8], [], [
    ⟨some 54, .mv (.t 8), none, false⟩,
    ⟨some 55, .bin .int .add (.t 54) (.c (.dat (.int .i64 1))), none, false⟩,
    ⟨some 8, .mv (.t 55), none, false⟩], []⟩
def l23_1 : AC := .seq (.seq (.reg r23_12) (.cond (.t 53) (.skip) (.exit 4))) (.seq (.block 5 (.reg r23_13)) (.reg r23_14))
@[simp] theorem l23_1e (K : Orc) (s : St) : exec K l23_1 s = exec K (.seq (.seq (.reg r23_12) (.cond (.t 53) (.skip) (.exit 4))) (.seq (.block 5 (.reg r23_13)) (.reg r23_14))) s := rfl
@[simp] def r23_15 : AReg := ⟨[0, 1, 6, 7], [], [
    ⟨some 65, .mv (.t 7), none, false⟩], []⟩
@[simp] def r23_16 : AReg := ⟨[0, 1, 6], [], [
    ⟨some 66, .mv (.t 0), none, false⟩,
    ⟨some 67, .nilChk (.t 66), none, false⟩,
    ⟨some 68, .fAddr 0 (.t 67), none, false⟩,
    ⟨some 69, .ld 1 false (.t 68), none, false⟩,
    ⟨some 70, .mv (.t 0), none, false⟩,
    ⟨some 71, .nilChk (.t 70), none, false⟩,
    ⟨some 72, .fAddr 1 (.t 71), none, false⟩,
    ⟨some 73, .ld 1 false (.t 72), none, false⟩,
    ⟨some 74, .mv (.t 6), none, false⟩,
    ⟨some 75, .iAddr 2 (.t 73) (.t 74), none, false⟩,
    ⟨some 76, .fAddr 0 (.t 75), none, false⟩,
    ⟨some 77, .ld 1 false (.t 76), none, false⟩,
    ⟨some 78, .mv (.t 0), none, false⟩,
    ⟨some 79, .nilChk (.t 78), none, false⟩,
    ⟨some 80, .fAddr 1 (.t 79), none, false⟩,
    ⟨some 81, .ld 1 false (.t 80), none, false⟩,
    ⟨some 82, .mv (.t 6), none, false⟩,
    ⟨some 83, .iAddr 2 (.t 81) (.t 82), none, false⟩,
    ⟨some 84, .fAddr 1 (.t 83), none, false⟩,
    ⟨some 85, .ld 1 false (.t 84), none, false⟩,
    ⟨some 86, .iAddr 1 (.t 69) (.t 77), none, false⟩,
    ⟨none, .st 1 (.t 86) (.t 85), none, false⟩], []⟩
@[simp] def r23_17 : AReg := ⟨[0, 1, 6], [], [
    ⟨some 48, .mv (.t 6), none, false⟩,
    ⟨some 49, .bin .int .add (.t 48) (.c (.dat (.int .i64 1))), none, false⟩,
    ⟨some 6, .mv (.t 49), none, false⟩], []⟩
def l23_2 : AC := .seq (.seq (.reg r23_9) (.cond (.t 47) (.skip) (.exit 2))) (.seq (.block 3 (.seq (.reg r23_10) (.seq (.seq (.reg r23_11) (.block 4 (.loop l23_1))) (.seq (.reg r23_15) (.cond (.t 65) (.reg r23_16) (.skip)))))) (.reg r23_17))
@[simp] theorem l23_2e (K : Orc) (s : St) : exec K l23_2 s = exec K (.seq (.seq (.reg r23_9) (.cond (.t 47) (.skip) (.exit 2))) (.seq (.block 3 (.seq (.reg r23_10) (.seq (.seq (.reg r23_11) (.block 4 (.loop l23_1))) (.seq (.reg r23_15) (.cond (.t 65) (.reg r23_16) (.skip)))))) (.reg r23_17))) s := rfl
@[simp] def r23_18 : AReg := ⟨[0], [], [
    ⟨some 87, .mv (.t 0), none, false⟩,
    ⟨some 88, .nilChk (.t 87), none, false⟩,
    ⟨some 89, .fAddr 1 (.t 88), none, false⟩,
    ⟨none, .st 1 (.t 89) (.c .nils), none, false⟩], []⟩
@[simp] def r23_19 : AReg := ⟨[0], [], [
    ⟨some 90, .mv (.t 0), none, false⟩,
    ⟨some 91, .nilChk (.t 90), none, false⟩,
    ⟨some 92, .fAddr 2 (.t 91), none, false⟩,
    ⟨some 93, .ld 1 false (.t 92), none, false⟩,
    ⟨some 94, .bin .int .add (.t 93) (.c (.dat (.int .i64 1))), none, false⟩,
    ⟨some 95, .nilChk (.t 90), none, false⟩,
    ⟨some 96, .fAddr 2 (.t 95), none, false⟩,
    ⟨none, .st 1 (.t 96) (.t 94), none, false⟩], []⟩
@[simp] def r23_20 : AReg := ⟨[], [], [
    ⟨some 4, .mv (.c (.dat (.int .i64 0))), none, false⟩], []⟩
@[simp] def fn23 : AFun := ⟨2, [4], false,
  .seq (.reg r23_0) (.seq (.seq (.reg r23_1) (.cond (.t 17) (.seq (.reg r23_2) (.ret)) (.skip))) (.seq (.seq (.reg r23_3) (.block 0 (.loop l23_0))) (.seq (.seq (.reg r23_8) (.block 2 (.loop l23_2))) (.seq (.reg r23_18) (.seq (.reg r23_19) (.seq (.reg r23_20) (.ret))))))), none⟩

theorem c23 : cFun Try.prog ann23 false 23 = some fn23 := by kernel_rfl

/-! 24: (*modelcheck/journal.Disk).Read -/

def ann24 : Ann := [{ id := 0, live := [0, 1] },
  { id := 1, live := [0, 1], marks := [(1, { byRef := [0] })] },
  { id := 2, live := [] },
  { id := 3, live := [0, 1] },
  { id := 4, live := [] },
  { id := 5, live := [0, 1], marks := [(0, { md := .o })] },
  { id := 6, live := [0, 1, 6], marks := [(3, { byRef := [0] })] },
  { id := 7, live := [6] }]

@[simp] def r24_0 : AReg := ⟨[0, 1], [], [
    ⟨some 4, .mv (.c .nils), none, false⟩,
    ⟨some 5, .mv (.c (.dat (.int .i64 0))), none, false⟩], []⟩
@[simp] def r24_1 : AReg := ⟨[0, 1], [], [
    ⟨some 7, .mv (.t 0), none, false⟩,
    ⟨some 8, .call 34 [((.t 7), true)] true, none, false⟩,
    ⟨some 9, .un .not (.t 8), none, false⟩], []⟩
@[simp] def r24_2 : AReg := ⟨[], [], [
    ⟨some 4, .mv (.c .nils), none, false⟩,
    ⟨some 5, .mv (.c (.dat (.int .i64 23))), none, false⟩], []⟩
@[simp] def r24_3 : AReg := ⟨[0, 1], [], [
    ⟨some 10, .mv (.t 1), none, false⟩,
    ⟨some 11, .bin .int .lss (.t 10) (.c (.dat (.int .i64 0))), none, false⟩,
    ⟨some 12, .mv (.t 11), none, false⟩,
    ⟨some 13, .mv (.t 1), some (12, false), false⟩,
    ⟨some 14, .mv (.t 0), some (12, false), false⟩,
    ⟨some 15, .nilChk (.t 14), some (12, false), false⟩,
    ⟨some 16, .fAddr 0 (.t 15), some (12, false), false⟩,
    ⟨some 17, .ld 1 false (.t 16), some (12, false), false⟩,
    ⟨some 18, .len false (.t 17), some (12, false), false⟩,
    ⟨some 19, .bin .int .geq (.t 13) (.t 18), some (12, false), false⟩,
    ⟨some 20, .pick (.t 12) (.c (.dat (.bool true))) (.t 19), none, false⟩], []⟩
@[simp] def r24_4 : AReg := ⟨[], [], [
    ⟨some 4, .mv (.c .nils), none, false⟩,
    ⟨some 5, .mv (.c (.dat (.int .i64 2))), none, false⟩], []⟩
@[simp] def r24_5 : AReg := ⟨[0, 1], [], [
    ⟨some 21, .mk .o 1 1 [(.dat (.int .u8 0))] (.c (.dat (.int .i64 64))) (.c (.dat (.int .i64 64))), none, false⟩,
    ⟨some 6, .mv (.t 21), none, false⟩], []⟩
@[simp] def r24_6 : AReg := ⟨[0, 1, 6], [], [
    ⟨some 22, .mv (.t 6), none, false⟩,
    ⟨some 23, .mv (.t 0), none, false⟩,
    ⟨some 24, .mv (.t 1), none, false⟩,
    ⟨some 25, .call 36 [((.t 23), true), ((.t 24), false)] false, none, false⟩,
    ⟨some 26, .cpy 1 (.t 22) (.t 25), none, false⟩], []⟩
@[simp] def r24_7 : AReg := ⟨[6], [], [
    ⟨some 27, .mv (.t 6), none, false⟩,
    ⟨some 4, .mv (.t 27), none, false⟩,
    ⟨some 5, .mv (.c (.dat (.int .i64 0))), none, false⟩], []⟩
@[simp] def fn24 : AFun := ⟨2, [4, 5], false,
  .seq (.reg r24_0) (.seq (.seq (.reg r24_1) (.cond (.t 9) (.seq (.reg r24_2) (.ret)) (.skip))) (.seq (.seq (.reg r24_3) (.cond (.t 20) (.seq (.reg r24_4) (.ret)) (.skip))) (.seq (.reg r24_5) (.seq (.reg r24_6) (.seq (.reg r24_7) (.ret)))))), none⟩

theorem c24 : cFun Try.prog ann24 false 24 = some fn24 := by kernel_rfl

/-! 25: (*modelcheck/modelcheckref50.Disk).Read -/

def ann25 : Ann := [{ id := 0, live := [0, 1] },
  { id := 1, live := [0, 1] },
  { id := 2, live := [] },
  { id := 3, live := [0, 1] },
  { id := 4, live := [] },
  { id := 5, live := [0, 1], marks := [(0, { md := .o }), (8, { md := .o })] },
  { id := 6, live := [0, 1, 6] },
  { id := 7, live := [0, 1, 6, 7], drop := [0, 6] },
  { id := 9, live := [0, 1, 6, 7] },
  { id := 10, live := [0, 1, 7], marks := [(0, { md := .o }), (9, { md := .o })] },
  { id := 8, live := [0, 1, 6, 7] },
  { id := 11, live := [6] }]

@[simp] def r25_0 : AReg := ⟨[0, 1], [], [
    ⟨some 4, .mv (.c .nils), none, false⟩,
    ⟨some 5, .mv (.c (.dat (.int .i64 0))), none, false⟩], []⟩
@[simp] def r25_1 : AReg := ⟨[0, 1], [], [
    ⟨some 8, .mv (.t 0), none, false⟩,
    ⟨some 9, .bin .ptr .eql (.t 8) (.c .nilp), none, false⟩,
    ⟨some 10, .mv (.t 9), none, false⟩,
    ⟨some 11, .mv (.t 0), some (10, false), false⟩,
    ⟨some 12, .nilChk (.t 11), some (10, false), false⟩,
    ⟨some 13, .fAddr 4 (.t 12), some (10, false), false⟩,
    ⟨some 14, .ld 1 false (.t 13), some (10, false), false⟩,
    ⟨some 15, .un .not (.t 14), some (10, false), false⟩,
    ⟨some 16, .pick (.t 10) (.c (.dat (.bool true))) (.t 15), none, false⟩], []⟩
@[simp] def r25_2 : AReg := ⟨[], [], [
    ⟨some 4, .mv (.c .nils), none, false⟩,
    ⟨some 5, .mv (.c (.dat (.int .i64 23))), none, false⟩], []⟩
@[simp] def r25_3 : AReg := ⟨[0, 1], [], [
    ⟨some 17, .mv (.t 1), none, false⟩,
    ⟨some 18, .bin .int .lss (.t 17) (.c (.dat (.int .i64 0))), none, false⟩,
    ⟨some 19, .mv (.t 18), none, false⟩,
    ⟨some 20, .mv (.t 1), some (19, false), false⟩,
    ⟨some 21, .mv (.t 0), some (19, false), false⟩,
    ⟨some 22, .nilChk (.t 21), some (19, false), false⟩,
    ⟨some 23, .fAddr 0 (.t 22), some (19, false), false⟩,
    ⟨some 24, .ld 1 false (.t 23), some (19, false), false⟩,
    ⟨some 25, .len false (.t 24), some (19, false), false⟩,
    ⟨some 26, .bin .int .geq (.t 20) (.t 25), some (19, false), false⟩,
    ⟨some 27, .pick (.t 19) (.c (.dat (.bool true))) (.t 26), none, false⟩], []⟩
@[simp] def r25_4 : AReg := ⟨[], [], [
    ⟨some 4, .mv (.c .nils), none, false⟩,
    ⟨some 5, .mv (.c (.dat (.int .i64 2))), none, false⟩], []⟩
@[simp] def r25_5 : AReg := ⟨[0, 1], [], [
    ⟨some 28, .bldS .o 1 [], none, false⟩,
    ⟨some 29, .mv (.t 0), none, false⟩,
    ⟨some 30, .nilChk (.t 29), none, false⟩,
    ⟨some 31, .fAddr 0 (.t 30), none, false⟩,
    ⟨some 32, .ld 1 false (.t 31), none, false⟩,
    ⟨some 33, .mv (.t 1), none, false⟩,
    ⟨some 34, .iAddr 1 (.t 32) (.t 33), none, false⟩,
    ⟨some 35, .ld 1 false (.t 34), none, false⟩,
    ⟨some 36, .app .o 1 1 (.t 28) (.t 35), none, false⟩,
    ⟨some 6, .mv (.t 36), none, false⟩], []⟩
@[simp] def r25_6 : AReg := ⟨[0, 1, 6], [], [
    ⟨some 7, .mv (.c (.dat (.int .i64 0))), none, false⟩], []⟩
@[simp] def r25_7 : AReg := ⟨[0, 1, 6, 7], [0, 6], [
    ⟨some 37, .mv (.t 7), none, false⟩,
    ⟨some 38, .mv (.t 0), none, false⟩,
    ⟨some 39, .nilChk (.t 38), none, false⟩,
    ⟨some 40, .fAddr 1 (.t 39), none, false⟩,
    ⟨some 41, .ld 1 false (.t 40), none, false⟩,
    ⟨some 42, .len false (.t 41), none, false⟩,
    ⟨some 43, .bin .int .lss (.t 37) (.t 42), none, false⟩], []⟩
@[simp] def r25_8 : AReg := ⟨[0, 1, 6, 7], [], [
    ⟨some 46, .mv (.t 0), none, false⟩,
    ⟨some 47, .nilChk (.t 46), none, false⟩,
    ⟨some 48, .fAddr 1 (.t 47), none, false⟩,
    ⟨some 49, .ld 1 false (.t 48), none, false⟩,
    ⟨some 50, .mv (.t 7), none, false⟩,
    ⟨some 51, .iAddr 2 (.t 49) (.t 50), none, false⟩,
    ⟨some 52, .fAddr 0 (.t 51), none, false⟩,
    ⟨some 53, .ld 1 false (.t 52), none, false⟩,
    ⟨some 54, .mv (.t 1), none, false⟩,
    ⟨some 55, .bin .int .eql (.t 53) (.t 54), none, false⟩], []⟩
@[simp] def r25_9 : AReg := ⟨[0, 1, 7], [], [
    ⟨some 56, .bldS .o 1 [], none, false⟩,
    ⟨some 57, .mv (.t 0), none, false⟩,
    ⟨some 58, .nilChk (.t 57), none, false⟩,
    ⟨some 59, .fAddr 1 (.t 58), none, false⟩,
    ⟨some 60, .ld 1 false (.t 59), none, false⟩,
    ⟨some 61, .mv (.t 7), none, false⟩,
    ⟨some 62, .iAddr 2 (.t 60) (.t 61), none, false⟩,
    ⟨some 63, .fAddr 1 (.t 62), none, false⟩,
    ⟨some 64, .ld 1 false (.t 63), none, false⟩,
    ⟨some 65, .app .o 1 1 (.t 56) (.t 64), none, false⟩,
    ⟨some 6, .mv (.t 65), none, false⟩], []⟩
@[simp] def r25_10 : AReg := ⟨[0, 1, 6, 7], [], [
    ⟨some 44, .mv (.t 7), none, false⟩,
    ⟨some 45, .bin .int .add (.t 44) (.c (.dat (.int .i64 1))), none, false⟩,
    ⟨some 7, .mv (.t 45), none, false⟩], []⟩
def l25_0 : AC := .seq (.seq (.reg r25_7) (.cond (.t 43) (.skip) (.exit 0))) (.seq (.block 1 (.seq (.reg r25_8) (.cond (.t 55) (.reg r25_9) (.skip)))) (.reg r25_10))
@[simp] theorem l25_0e (K : Orc) (s : St) : exec K l25_0 s = exec K (.seq (.seq (.reg r25_7) (.cond (.t 43) (.skip) (.exit 0))) (.seq (.block 1 (.seq (.reg r25_8) (.cond (.t 55) (.reg r25_9) (.skip)))) (.reg r25_10))) s := rfl
@[simp] def r25_11 : AReg := ⟨[6], [], [
    ⟨some 66, .mv (.t 6), none, false⟩,
    ⟨some 4, .mv (.t 66), none, false⟩,
    ⟨some 5, .mv (.c (.dat (.int .i64 0))), none, false⟩], []⟩
@[simp] def fn25 : AFun := ⟨2, [4, 5], false,
  .seq (.reg r25_0) (.seq (.seq (.reg r25_1) (.cond (.t 16) (.seq (.reg r25_2) (.ret)) (.skip))) (.seq (.seq (.reg r25_3) (.cond (.t 27) (.seq (.reg r25_4) (.ret)) (.skip))) (.seq (.reg r25_5) (.seq (.seq (.reg r25_6) (.block 0 (.loop l25_0))) (.seq (.reg r25_11) (.ret)))))), none⟩

theorem c25 : cFun Try.prog ann25 false 25 = some fn25 := by kernel_rfl

/-! 26: (*modelcheck/journal.Disk).Pending -/

def ann26 : Ann := [{ id := 0, live := [0] },
  { id := 1, live := [0], marks := [(1, { byRef := [0] })] },
  { id := 2, live := [] },
  { id := 3, live := [0] }]

@[simp] def r26_0 : AReg := ⟨[0], [], [
    ⟨some 2, .mv (.c (.dat (.int .i64 0))), none, false⟩], []⟩
@[simp] def r26_1 : AReg := ⟨[0], [], [
    ⟨some 3, .mv (.t 0), none, false⟩,
    ⟨some 4, .call 34 [((.t 3), true)] true, none, false⟩,
    ⟨some 5, .un .not (.t 4), none, false⟩], []⟩
@[simp] def r26_2 : AReg := ⟨[], [], [
    ⟨some 2, .mv (.c (.dat (.int .i64 0))), none, false⟩], []⟩
@[simp] def r26_3 : AReg := ⟨[0], [], [
    ⟨some 6, .mv (.t 0), none, false⟩,
    ⟨some 7, .nilChk (.t 6), none, false⟩,
    ⟨some 8, .fAddr 1 (.t 7), none, false⟩,
    ⟨some 9, .ld 1 false (.t 8), none, false⟩,
    ⟨some 10, .len false (.t 9), none, false⟩,
    ⟨some 2, .mv (.t 10), none, false⟩], []⟩
@[simp] def fn26 : AFun := ⟨1, [2], false,
  .seq (.reg r26_0) (.seq (.seq (.reg r26_1) (.cond (.t 5) (.seq (.reg r26_2) (.ret)) (.skip))) (.seq (.reg r26_3) (.ret))), none⟩

theorem c26 : cFun Try.prog ann26 false 26 = some fn26 := by kernel_rfl

/-! 27: (*modelcheck/modelcheckref50.Disk).Pending -/

def ann27 : Ann := [{ id := 0, live := [0] },
  { id := 1, live := [0] },
  { id := 2, live := [] },
  { id := 3, live := [0] }]

@[simp] def r27_0 : AReg := ⟨[0], [], [
    ⟨some 2, .mv (.c (.dat (.int .i64 0))), none, false⟩], []⟩
@[simp] def r27_1 : AReg := ⟨[0], [], [
    ⟨some 3, .mv (.t 0), none, false⟩,
    ⟨some 4, .bin .ptr .eql (.t 3) (.c .nilp), none, false⟩], []⟩
@[simp] def r27_2 : AReg := ⟨[], [], [
    ⟨some 2, .mv (.c (.dat (.int .i64 0))), none, false⟩], []⟩
@[simp] def r27_3 : AReg := ⟨[0], [], [
    ⟨some 5, .mv (.t 0), none, false⟩,
    ⟨some 6, .nilChk (.t 5), none, false⟩,
    ⟨some 7, .fAddr 1 (.t 6), none, false⟩,
    ⟨some 8, .ld 1 false (.t 7), none, false⟩,
    ⟨some 9, .len false (.t 8), none, false⟩,
    ⟨some 2, .mv (.t 9), none, false⟩], []⟩
@[simp] def fn27 : AFun := ⟨1, [2], false,
  .seq (.reg r27_0) (.seq (.seq (.reg r27_1) (.cond (.t 4) (.seq (.reg r27_2) (.ret)) (.skip))) (.seq (.reg r27_3) (.ret))), none⟩

theorem c27 : cFun Try.prog ann27 false 27 = some fn27 := by kernel_rfl

/-! 28: modelcheck/modelcheckref50.Open -/

def ann28 : Ann := [{ id := 0, live := [0] },
  { id := 1, live := [0] },
  { id := 2, live := [] },
  { id := 3, live := [0], marks := [(0, { md := .o })] },
  { id := 4, live := [0, 5] },
  { id := 5, live := [0, 5, 6] },
  { id := 6, live := [0, 5, 6, 7], drop := [0, 5] },
  { id := 8, live := [0, 5, 6, 7], marks := [(2, { byRef := [0] })] },
  { id := 9, live := [0, 5, 6, 7, 8], marks := [(3, { md := .o })] },
  { id := 10, live := [0, 5, 6, 7, 8] },
  { id := 7, live := [0, 5, 6, 7] },
  { id := 11, live := [0, 5, 6] },
  { id := 12, live := [] },
  { id := 13, live := [0, 5, 6] },
  { id := 14, live := [0, 5, 10], drop := [0, 5, 10] },
  { id := 15, live := [0, 5, 10, 11, 12] },
  { id := 16, live := [0, 5, 10, 11, 12], marks := [(7, { md := .o })] },
  { id := 17, live := [0, 5, 10, 12] },
  { id := 18, live := [0, 10] },
  { id := 19, live := [0, 10] },
  { id := 20, live := [10], marks := [(5, { byRef := [0] })] }]

@[simp] def r28_0 : AReg := ⟨[0], [], [
    ⟨some 2, .mv (.c .nilp), none, false⟩,
    ⟨some 3, .mv (.c .nils), none, false⟩,
    ⟨some 4, .mv (.c (.dat (.int .i64 0))), none, false⟩], []⟩
@[simp] def r28_1 : AReg := ⟨[0], [], [
    ⟨some 13, .mv (.t 0), none, false⟩,
    ⟨some 14, .bin .ptr .eql (.t 13) (.c .nilp), none, false⟩,
    ⟨some 15, .mv (.t 14), none, false⟩,
    ⟨some 16, .mv (.t 0), some (15, false), false⟩,
    ⟨some 17, .nilChk (.t 16), some (15, false), false⟩,
    ⟨some 18, .fAddr 4 (.t 17), some (15, false), false⟩,
    ⟨some 19, .ld 1 false (.t 18), some (15, false), false⟩,
    ⟨some 20, .un .not (.t 19), some (15, false), false⟩,
    ⟨some 21, .pick (.t 15) (.c (.dat (.bool true))) (.t 20), none, false⟩], []⟩
@[simp] def r28_2 : AReg := ⟨[], [], [
    ⟨some 2, .mv (.c .nilp), none, false⟩,
    ⟨some 3, .mv (.c .nils), none, false⟩,
    ⟨some 4, .mv (.c (.dat (.int .i64 23))), none, false⟩], []⟩
@[simp] def r28_3 : AReg := ⟨[0], [], [
    ⟨some 5, .mvNil .o 1, none, false⟩], []⟩
@[simp] def r28_4 : AReg := ⟨[0, 5], [], [
    ⟨some 6, .mv (.c (.dat (.int .i64 0))), none, false⟩], []⟩
@[simp] def r28_5 : AReg := ⟨[0, 5, 6], [], [
    ⟨some 7, .mv (.c (.dat (.int .i64 0))), none, false⟩], []⟩
@[simp] def r28_6 : AReg := ⟨[0, 5, 6, 7], [0, 5], [
    ⟨some 22, .mv (.t 7), none, false⟩,
    ⟨some 23, .mv (.t 0), none, false⟩,
    ⟨some 24, .nilChk (.t 23), none, false⟩,
    ⟨some 25, .fAddr 0 (.t 24), none, false⟩,
    ⟨some 26, .ld 1 false (.t 25), none, false⟩,
    ⟨some 27, .len false (.t 26), none, false⟩,
    ⟨some 28, .bin .int .lss (.t 22) (.t 27), none, false⟩], []⟩
@[simp] def r28_7 : AReg := ⟨[0, 5, 6, 7], [], [
    ⟨some 32, .mv (.t 0), none, false⟩,
    ⟨some 33, .mv (.t 7), none, false⟩,
    ⟨some 34, .call 25 [((.t 32), true), ((.t 33), false)] false, none, false⟩,
    ⟨some 31, .mv (.t 34), none, false⟩,
    ⟨some 35, .ext 0 (.t 31), none, false⟩,
    ⟨some 36, .ext 1 (.t 31), none, false⟩,
    ⟨some 8, .mv (.t 35), none, false⟩,
    ⟨some 9, .mv (.t 36), none, false⟩], []⟩
@[simp] def r28_8 : AReg := ⟨[0, 5, 6, 7, 8], [], [
    ⟨some 37, .mv (.t 5), none, false⟩,
    ⟨some 38, .mv (.t 8), none, false⟩,
    ⟨some 39, .bldS .d 1 [(.t 38)], none, false⟩,
    ⟨some 40, .app .o 1 24 (.t 37) (.t 39), none, false⟩,
    ⟨some 5, .mv (.t 40), none, false⟩], []⟩
@[simp] def r28_9 : AReg := ⟨[0, 5, 6, 7, 8], [], [
    ⟨some 41, .mv (.t 6), none, false⟩,
    ⟨some 42, .mv (.t 8), none, false⟩,
    ⟨some 43, .slc false 1 (.t 42) none (some (.c (.dat (.int .i64 4)))), none, false⟩,
    ⟨some 44, .call 41 [((.t 43), false)] true, none, false⟩,
    ⟨some 45, .mm true (.t 41) [(.t 44)], none, false⟩,
    ⟨some 6, .mv (.t 45), none, false⟩], []⟩
@[simp] def r28_10 : AReg := ⟨[0, 5, 6, 7], [], [
    ⟨some 29, .mv (.t 7), none, false⟩,
    ⟨some 30, .bin .int .add (.t 29) (.c (.dat (.int .i64 1))), none, false⟩,
    ⟨some 7, .mv (.t 30), none, false⟩], []⟩
def l28_0 : AC := .seq (.seq (.reg r28_6) (.cond (.t 28) (.skip) (.exit 0))) (.seq (.block 1 (.seq (.reg r28_7) (.seq (.reg r28_8) (.reg r28_9)))) (.reg r28_10))
@[simp] theorem l28_0e (K : Orc) (s : St) : exec K l28_0 s = exec K (.seq (.seq (.reg r28_6) (.cond (.t 28) (.skip) (.exit 0))) (.seq (.block 1 (.seq (.reg r28_7) (.seq (.reg r28_8) (.reg r28_9)))) (.reg r28_10))) s := rfl
@[simp] def r28_11 : AReg := ⟨[0, 5, 6], [], [
    ⟨some 46, .mv (.t 6), none, false⟩,
    ⟨some 47, .bin .int .eql (.t 46) (.c (.dat (.int .i64 4294967295))), none, false⟩], []⟩
@[simp] def r28_12 : AReg := ⟨[], [], [
    ⟨some 2, .mv (.c .nilp), none, false⟩,
    ⟨some 3, .mv (.c .nils), none, false⟩,
    ⟨some 4, .mv (.c (.dat (.int .i64 24))), none, false⟩], []⟩
@[simp] def r28_13 : AReg := ⟨[0, 5, 6], [], [
    ⟨some 48, .mv (.t 0), none, false⟩,
    ⟨some 49, .mv (.t 6), none, false⟩,
    ⟨some 50, .bin .int .add (.t 49) (.c (.dat (.int .i64 1))), none, false⟩,
    ⟨some 51, .bld [.nilp, .nils, (.dat (.int .i64 0)), (.dat (.int .i64 0)), (.dat (.int .i64 0)), (.dat (.int .i64 0))] [(0, 1, (.t 48)), (3, 1, (.t 50))], none, false⟩,
    ⟨some 52, .box 6 (.t 51), none, false⟩,
    ⟨some 10, .mv (.t 52), none, false⟩], []⟩
@[simp] def r28_14 : AReg := ⟨[0, 5, 10], [0, 5, 10], [
    ⟨some 54, .mv (.t 5), none, false⟩,
    ⟨some 55, .mv (.t 10), none, false⟩,
    ⟨some 56, .nilChk (.t 55), none, false⟩,
    ⟨some 57, .fAddr 2 (.t 56), none, false⟩,
    ⟨some 58, .ld 1 false (.t 57), none, false⟩,
    ⟨some 59, .mv (.t 10), none, false⟩,
    ⟨some 60, .nilChk (.t 59), none, false⟩,
    ⟨some 61, .fAddr 1 (.t 60), none, false⟩,
    ⟨some 62, .ld 1 false (.t 61), none, false⟩,
    ⟨some 63, .len false (.t 62), none, false⟩,
    ⟨some 64, .call 42 [((.t 54), false), ((.t 58), false), ((.t 63), false)] false, none, false⟩,
    ⟨some 53, .mv (.t 64), none, false⟩,
    ⟨some 65, .ext 0 (.t 53), none, false⟩,
    ⟨some 66, .ext 1 (.t 53), none, false⟩,
    ⟨some 11, .mv (.t 65), none, false⟩,
    ⟨some 12, .mv (.t 66), none, false⟩], []⟩
@[simp] def r28_15 : AReg := ⟨[0, 5, 10, 11, 12], [], [
    ⟨some 67, .mv (.t 12), none, false⟩,
    ⟨some 68, .bin .int .eql (.t 67) (.c (.dat (.int .i64 0))), none, false⟩], []⟩
@[simp] def r28_16 : AReg := ⟨[0, 5, 10, 11, 12], [], [
    ⟨some 69, .mv (.t 10), none, false⟩,
    ⟨some 70, .mv (.t 10), none, false⟩,
    ⟨some 71, .nilChk (.t 70), none, false⟩,
    ⟨some 72, .fAddr 1 (.t 71), none, false⟩,
    ⟨some 73, .ld 1 false (.t 72), none, false⟩,
    ⟨some 74, .mv (.t 11), none, false⟩,
    ⟨some 75, .bldS .d 1 [(.t 74)], none, false⟩,
    ⟨some 76, .app .o 1 24 (.t 73) (.t 75), none, false⟩,
    ⟨some 77, .nilChk (.t 69), none, false⟩,
    ⟨some 78, .fAddr 1 (.t 77), none, false⟩,
    ⟨none, .st 1 (.t 78) (.t 76), none, false⟩], []⟩
@[simp] def r28_17 : AReg := ⟨[0, 5, 10, 12], [], [
    ⟨some 79, .mv (.t 10), none, false⟩,
    ⟨some 80, .mv (.t 10), none, false⟩,
    ⟨some 81, .nilChk (.t 80), none, false⟩,
    ⟨some 82, .fAddr 2 (.t 81), none, false⟩,
    ⟨some 83, .ld 1 false (.t 82), none, false⟩,
    ⟨some 84, .mv (.t 12), none, false⟩,
    ⟨some 85, .bin .int .add (.t 83) (.t 84), none, false⟩,
    ⟨some 86, .nilChk (.t 79), none, false⟩,
    ⟨some 87, .fAddr 2 (.t 86), none, false⟩,
    ⟨none, .st 1 (.t 87) (.t 85), none, false⟩], []⟩
def l28_1 : AC := .block 3 (.seq (.reg r28_14) (.seq (.seq (.reg r28_15) (.cond (.t 68) (.exit 2) (.skip))) (.seq (.reg r28_16) (.reg r28_17))))
@[simp] theorem l28_1e (K : Orc) (s : St) : exec K l28_1 s = exec K (.block 3 (.seq (.reg r28_14) (.seq (.seq (.reg r28_15) (.cond (.t 68) (.exit 2) (.skip))) (.seq (.reg r28_16) (.reg r28_17))))) s := rfl
@[simp] def r28_18 : AReg := ⟨[0, 10], [], [
    ⟨some 88, .mv (.t 0), none, false⟩,
    ⟨some 89, .nilChk (.t 88), none, false⟩,
    ⟨some 90, .fAddr 3 (.t 89), none, false⟩,
    ⟨some 91, .ld 1 false (.t 90), none, false⟩,
    ⟨some 92, .bin .int .add (.t 91) (.c (.dat (.int .i64 1))), none, false⟩,
    ⟨some 93, .nilChk (.t 88), none, false⟩,
    ⟨some 94, .fAddr 3 (.t 93), none, false⟩,
    ⟨none, .st 1 (.t 94) (.t 92), none, false⟩], []⟩
@[simp] def r28_19 : AReg := ⟨[0, 10], [], [
    ⟨some 95, .mv (.t 10), none, false⟩,
    ⟨some 96, .mv (.t 10), none, false⟩,
    ⟨some 97, .mv (.t 0), none, false⟩,
    ⟨some 98, .nilChk (.t 97), none, false⟩,
    ⟨some 99, .fAddr 3 (.t 98), none, false⟩,
    ⟨some 100, .ld 1 false (.t 99), none, false⟩,
    ⟨some 101, .mv (.t 0), none, false⟩,
    ⟨some 102, .nilChk (.t 101), none, false⟩,
    ⟨some 103, .fAddr 2 (.t 102), none, false⟩,
    ⟨some 104, .ld 1 false (.t 103), none, false⟩,
    ⟨some 105, .nilChk (.t 95), none, false⟩,
    ⟨some 106, .fAddr 5 (.t 105), none, false⟩,
    ⟨none, .st 1 (.t 106) (.t 100), none, false⟩,
    ⟨some 107, .nilChk (.t 96), none, false⟩,
    ⟨some 108, .fAddr 4 (.t 107), none, false⟩,
    ⟨none, .st 1 (.t 108) (.t 104), none, false⟩], []⟩
@[simp] def r28_20 : AReg := ⟨[10], [], [
    ⟨some 109, .mv (.t 10), none, false⟩,
    ⟨some 110, .mv (.t 10), none, false⟩,
    ⟨some 111, .nilChk (.t 110), none, false⟩,
    ⟨some 112, .fAddr 1 (.t 111), none, false⟩,
    ⟨some 113, .ld 1 false (.t 112), none, false⟩,
    ⟨some 114, .call 43 [((.t 113), true)] false, none, false⟩,
    ⟨some 2, .mv (.t 109), none, false⟩,
    ⟨some 3, .mv (.t 114), none, false⟩,
    ⟨some 4, .mv (.c (.dat (.int .i64 0))), none, false⟩], []⟩
@[simp] def fn28 : AFun := ⟨1, [2, 3, 4], false,
  .seq (.reg r28_0) (.seq (.seq (.reg r28_1) (.cond (.t 21) (.seq (.reg r28_2) (.ret)) (.skip))) (.seq (.reg r28_3) (.seq (.reg r28_4) (.seq (.seq (.reg r28_5) (.block 0 (.loop l28_0))) (.seq (.seq (.reg r28_11) (.cond (.t 47) (.seq (.reg r28_12) (.ret)) (.skip))) (.seq (.reg r28_13) (.seq (.block 2 (.loop l28_1)) (.seq (.reg r28_18) (.seq (.reg r28_19) (.seq (.reg r28_20) (.ret))))))))))), none⟩

theorem c28 : cFun Try.prog ann28 false 28 = some fn28 := by kernel_rfl

/-! 29: (*modelcheck/modelcheckref50.Journal).Append -/

def ann29 : Ann := [{ id := 0, live := [0, 1] },
  { id := 1, live := [0, 1] },
  { id := 2, live := [] },
  { id := 3, live := [0, 1] },
  { id := 4, live := [] },
  { id := 5, live := [0, 1] },
  { id := 6, live := [] },
  { id := 7, live := [0, 1] },
  { id := 8, live := [0, 1, 5] },
  { id := 9, live := [] },
  { id := 10, live := [0, 1, 5] },
  { id := 11, live := [0, 1, 5, 6] },
  { id := 12, live := [0, 1, 5, 6, 7], drop := [0, 1, 6] },
  { id := 14, live := [0, 1, 5, 6, 7], marks := [(14, { byRef := [0] })] },
  { id := 13, live := [0, 1, 5, 6, 7] },
  { id := 15, live := [0, 1, 5], marks := [(4, { byRef := [0] })] },
  { id := 16, live := [0, 1, 5], marks := [(5, { md := .o }), (7, { md := .o }), (9, { md := .o })] },
  { id := 17, live := [0, 5] },
  { id := 18, live := [] }]

@[simp] def r29_0 : AReg := ⟨[0, 1], [], [
    ⟨some 4, .mv (.c (.dat (.int .i64 0))), none, false⟩], []⟩
@[simp] def r29_1 : AReg := ⟨[0, 1], [], [
    ⟨some 8, .mv (.t 0), none, false⟩,
    ⟨some 9, .bin .ptr .eql (.t 8) (.c .nilp), none, false⟩,
    ⟨some 10, .mv (.t 9), none, false⟩,
    ⟨some 11, .mv (.t 0), some (10, false), false⟩,
    ⟨some 12, .nilChk (.t 11), some (10, false), false⟩,
    ⟨some 13, .fAddr 0 (.t 12), some (10, false), false⟩,
    ⟨some 14, .ld 1 false (.t 13), some (10, false), false⟩,
    ⟨some 15, .bin .ptr .eql (.t 14) (.c .nilp), some (10, false), false⟩,
    ⟨some 16, .pick (.t 10) (.c (.dat (.bool true))) (.t 15), none, false⟩], []⟩
@[simp] def r29_2 : AReg := ⟨[], [], [
    ⟨some 4, .mv (.c (.dat (.int .i64 23))), none, false⟩], []⟩
@[simp] def r29_3 : AReg := ⟨[0, 1], [], [
    ⟨some 17, .mv (.t 0), none, false⟩,
    ⟨some 18, .nilChk (.t 17), none, false⟩,
    ⟨some 19, .fAddr 0 (.t 18), none, false⟩,
    ⟨some 20, .ld 1 false (.t 19), none, false⟩,
    ⟨some 21, .nilChk (.t 20), none, false⟩,
    ⟨some 22, .fAddr 2 (.t 21), none, false⟩,
    ⟨some 23, .ld 1 false (.t 22), none, false⟩,
    ⟨some 24, .mv (.t 0), none, false⟩,
    ⟨some 25, .nilChk (.t 24), none, false⟩,
    ⟨some 26, .fAddr 4 (.t 25), none, false⟩,
    ⟨some 27, .ld 1 false (.t 26), none, false⟩,
    ⟨some 28, .bin .int .neq (.t 23) (.t 27), none, false⟩], []⟩
@[simp] def r29_4 : AReg := ⟨[], [], [
    ⟨some 4, .mv (.c (.dat (.int .i64 25))), none, false⟩], []⟩
@[simp] def r29_5 : AReg := ⟨[0, 1], [], [
    ⟨some 29, .mv (.t 0), none, false⟩,
    ⟨some 30, .nilChk (.t 29), none, false⟩,
    ⟨some 31, .fAddr 0 (.t 30), none, false⟩,
    ⟨some 32, .ld 1 false (.t 31), none, false⟩,
    ⟨some 33, .nilChk (.t 32), none, false⟩,
    ⟨some 34, .fAddr 3 (.t 33), none, false⟩,
    ⟨some 35, .ld 1 false (.t 34), none, false⟩,
    ⟨some 36, .mv (.t 0), none, false⟩,
    ⟨some 37, .nilChk (.t 36), none, false⟩,
    ⟨some 38, .fAddr 5 (.t 37), none, false⟩,
    ⟨some 39, .ld 1 false (.t 38), none, false⟩,
    ⟨some 40, .bin .int .neq (.t 35) (.t 39), none, false⟩], []⟩
@[simp] def r29_6 : AReg := ⟨[], [], [
    ⟨some 4, .mv (.c (.dat (.int .i64 30))), none, false⟩], []⟩
@[simp] def r29_7 : AReg := ⟨[0, 1], [], [
    ⟨some 41, .mv (.t 1), none, false⟩,
    ⟨some 42, .call 45 [((.t 41), false)] false, none, false⟩,
    ⟨some 43, .len false (.t 42), none, false⟩,
    ⟨some 44, .call 44 [((.t 43), false)] true, none, false⟩,
    ⟨some 5, .mv (.t 44), none, false⟩], []⟩
@[simp] def r29_8 : AReg := ⟨[0, 1, 5], [], [
    ⟨some 45, .mv (.t 5), none, false⟩,
    ⟨some 46, .mv (.t 0), none, false⟩,
    ⟨some 47, .nilChk (.t 46), none, false⟩,
    ⟨some 48, .fAddr 0 (.t 47), none, false⟩,
    ⟨some 49, .ld 1 false (.t 48), none, false⟩,
    ⟨some 50, .nilChk (.t 49), none, false⟩,
    ⟨some 51, .fAddr 0 (.t 50), none, false⟩,
    ⟨some 52, .ld 1 false (.t 51), none, false⟩,
    ⟨some 53, .len false (.t 52), none, false⟩,
    ⟨some 54, .mv (.t 0), none, false⟩,
    ⟨some 55, .nilChk (.t 54), none, false⟩,
    ⟨some 56, .fAddr 2 (.t 55), none, false⟩,
    ⟨some 57, .ld 1 false (.t 56), none, false⟩,
    ⟨some 58, .bin .int .sub (.t 53) (.t 57), none, false⟩,
    ⟨some 59, .bin .int .gtr (.t 45) (.t 58), none, false⟩], []⟩
@[simp] def r29_9 : AReg := ⟨[], [], [
    ⟨some 4, .mv (.c (.dat (.int .i64 24))), none, false⟩], []⟩
@[simp] def r29_10 : AReg := ⟨[0, 1, 5], [], [
    ⟨some 60, .mv (.t 0), none, false⟩,
    ⟨some 61, .nilChk (.t 60), none, false⟩,
    ⟨some 62, .fAddr 3 (.t 61), none, false⟩,
    ⟨some 63, .ld 1 false (.t 62), none, false⟩,
    ⟨some 64, .mv (.t 0), none, false⟩,
    ⟨some 65, .nilChk (.t 64), none, false⟩,
    ⟨some 66, .fAddr 1 (.t 65), none, false⟩,
    ⟨some 67, .ld 1 false (.t 66), none, false⟩,
    ⟨some 68, .len false (.t 67), none, false⟩,
    ⟨some 69, .mv (.t 1), none, false⟩,
    ⟨some 70, .call 46 [((.t 63), false), ((.t 68), false), ((.t 69), false)] false, none, false⟩,
    ⟨some 6, .mv (.t 70), none, false⟩], []⟩
@[simp] def r29_11 : AReg := ⟨[0, 1, 5, 6], [], [
    ⟨some 7, .mv (.c (.dat (.int .i64 0))), none, false⟩], []⟩
@[simp] def r29_12 : AReg := ⟨[0, 1, 5, 6, 7], [0, 1, 6], [
    ⟨some 71, .mv (.t 7), none, false⟩,
    ⟨some 72, .mv (.t 5), none, false⟩,
    ⟨some 73, .bin .int .lss (.t 71) (.t 72), none, false⟩], []⟩
@[simp] def r29_13 : AReg := ⟨[0, 1, 5, 6, 7], [], [
    ⟨some 76, .mv (.t 0), none, false⟩,
    ⟨some 77, .nilChk (.t 76), none, false⟩,
    ⟨some 78, .fAddr 0 (.t 77), none, false⟩,
    ⟨some 79, .ld 1 false (.t 78), none, false⟩,
    ⟨some 80, .mv (.t 0), none, false⟩,
    ⟨some 81, .nilChk (.t 80), none, false⟩,
    ⟨some 82, .fAddr 2 (.t 81), none, false⟩,
    ⟨some 83, .ld 1 false (.t 82), none, false⟩,
    ⟨some 84, .mv (.t 7), none, false⟩,
    ⟨some 85, .bin .int .add (.t 83) (.t 84), none, false⟩,
    ⟨some 86, .mv (.t 6), none, false⟩,
    ⟨some 87, .mv (.t 7), none, false⟩,
    ⟨some 88, .iAddr 1 (.t 86) (.t 87), none, false⟩,
    ⟨some 89, .ld 1 false (.t 88), none, false⟩,
    ⟨some 90, .call 20 [((.t 79), true), ((.t 85), false), ((.t 89), false)] true, none, false⟩], []⟩
@[simp] def r29_14 : AReg := ⟨[0, 1, 5, 6, 7], [], [
    ⟨some 74, .mv (.t 7), none, false⟩,
    ⟨some 75, .bin .int .add (.t 74) (.c (.dat (.int .i64 1))), none, false⟩,
    ⟨some 7, .mv (.t 75), none, false⟩], []⟩
def l29_0 : AC := .seq (.seq (.reg r29_12) (.cond (.t 73) (.skip) (.exit 0))) (.seq (.block 1 (.reg r29_13)) (.reg r29_14))
@[simp] theorem l29_0e (K : Orc) (s : St) : exec K l29_0 s = exec K (.seq (.seq (.reg r29_12) (.cond (.t 73) (.skip) (.exit 0))) (.seq (.block 1 (.reg r29_13)) (.reg r29_14))) s := rfl
@[simp] def r29_15 : AReg := ⟨[0, 1, 5], [], [
    ⟨some 91, .mv (.t 0), none, false⟩,
    ⟨some 92, .nilChk (.t 91), none, false⟩,
    ⟨some 93, .fAddr 0 (.t 92), none, false⟩,
    ⟨some 94, .ld 1 false (.t 93), none, false⟩,
    ⟨some 95, .call 21 [((.t 94), true)] true, none, false⟩], []⟩
@[simp] def r29_16 : AReg := ⟨[0, 1, 5], [], [
    ⟨some 96, .mv (.t 0), none, false⟩,
    ⟨some 97, .mv (.t 0), none, false⟩,
    ⟨some 98, .nilChk (.t 97), none, false⟩,
    ⟨some 99, .fAddr 1 (.t 98), none, false⟩,
    ⟨some 100, .ld 1 false (.t 99), none, true⟩,
    ⟨some 101, .bldS .o 1 [], none, true⟩,
    ⟨some 102, .mv (.t 1), none, false⟩,
    ⟨some 103, .app .o 1 1 (.t 101) (.t 102), none, true⟩,
    ⟨some 104, .bldS .d 1 [(.t 103)], none, true⟩,
    ⟨some 105, .app .o 1 24 (.t 100) (.t 104), none, false⟩,
    ⟨some 106, .nilChk (.t 96), none, false⟩,
    ⟨some 107, .fAddr 1 (.t 106), none, false⟩,
    ⟨none, .st 1 (.t 107) (.t 105), none, false⟩], [(4, 5), (4, 7), (4, 8)]⟩
@[simp] def r29_17 : AReg := ⟨[0, 5], [], [
    ⟨some 108, .mv (.t 0), none, false⟩,
    ⟨some 109, .mv (.t 0), none, false⟩,
    ⟨some 110, .nilChk (.t 109), none, false⟩,
    ⟨some 111, .fAddr 2 (.t 110), none, false⟩,
    ⟨some 112, .ld 1 false (.t 111), none, false⟩,
    ⟨some 113, .mv (.t 5), none, false⟩,
    ⟨some 114, .bin .int .add (.t 112) (.t 113), none, false⟩,
    ⟨some 115, .nilChk (.t 108), none, false⟩,
    ⟨some 116, .fAddr 2 (.t 115), none, false⟩,
    ⟨none, .st 1 (.t 116) (.t 114), none, false⟩], []⟩
@[simp] def r29_18 : AReg := ⟨[], [], [
    ⟨some 4, .mv (.c (.dat (.int .i64 0))), none, false⟩], []⟩
@[simp] def fn29 : AFun := ⟨2, [4], false,
  .seq (.reg r29_0) (.seq (.seq (.reg r29_1) (.cond (.t 16) (.seq (.reg r29_2) (.ret)) (.skip))) (.seq (.seq (.reg r29_3) (.cond (.t 28) (.seq (.reg r29_4) (.ret)) (.skip))) (.seq (.seq (.reg r29_5) (.cond (.t 40) (.seq (.reg r29_6) (.ret)) (.skip))) (.seq (.reg r29_7) (.seq (.seq (.reg r29_8) (.cond (.t 59) (.seq (.reg r29_9) (.ret)) (.skip))) (.seq (.reg r29_10) (.seq (.seq (.reg r29_11) (.block 0 (.loop l29_0))) (.seq (.reg r29_15) (.seq (.reg r29_16) (.seq (.reg r29_17) (.seq (.reg r29_18) (.ret)))))))))))), none⟩

theorem c29 : cFun Try.prog ann29 false 29 = some fn29 := by kernel_rfl

/-! 30: (*modelcheck/journal.Journal).Last -/

def ann30 : Ann := [{ id := 0, live := [0] },
  { id := 1, live := [0], marks := [(1, { byRef := [0] })] },
  { id := 2, live := [] },
  { id := 3, live := [0] }]

@[simp] def r30_0 : AReg := ⟨[0], [], [
    ⟨some 2, .mv (.c .nils), none, false⟩,
    ⟨some 3, .mv (.c (.dat (.bool false))), none, false⟩], []⟩
@[simp] def r30_1 : AReg := ⟨[0], [], [
    ⟨some 4, .mv (.t 0), none, false⟩,
    ⟨some 5, .call 39 [((.t 4), true)] true, none, false⟩,
    ⟨some 6, .un .not (.t 5), none, false⟩,
    ⟨some 7, .mv (.t 6), none, false⟩,
    ⟨some 8, .mv (.t 0), some (7, false), false⟩,
    ⟨some 9, .nilChk (.t 8), some (7, false), false⟩,
    ⟨some 10, .fAddr 1 (.t 9), some (7, false), false⟩,
    ⟨some 11, .ld 1 false (.t 10), some (7, false), false⟩,
    ⟨some 12, .len false (.t 11), some (7, false), false⟩,
    ⟨some 13, .bin .int .eql (.t 12) (.c (.dat (.int .i64 0))), some (7, false), false⟩,
    ⟨some 14, .pick (.t 7) (.c (.dat (.bool true))) (.t 13), none, false⟩], []⟩
@[simp] def r30_2 : AReg := ⟨[], [], [
    ⟨some 2, .mv (.c .nils), none, false⟩,
    ⟨some 3, .mv (.c (.dat (.bool false))), none, false⟩], []⟩
@[simp] def r30_3 : AReg := ⟨[0], [], [
    ⟨some 15, .mv (.t 0), none, false⟩,
    ⟨some 16, .nilChk (.t 15), none, false⟩,
    ⟨some 17, .fAddr 1 (.t 16), none, false⟩,
    ⟨some 18, .ld 1 false (.t 17), none, false⟩,
    ⟨some 19, .mv (.t 0), none, false⟩,
    ⟨some 20, .nilChk (.t 19), none, false⟩,
    ⟨some 21, .fAddr 1 (.t 20), none, false⟩,
    ⟨some 22, .ld 1 false (.t 21), none, false⟩,
    ⟨some 23, .len false (.t 22), none, false⟩,
    ⟨some 24, .bin .int .sub (.t 23) (.c (.dat (.int .i64 1))), none, false⟩,
    ⟨some 25, .iAddr 1 (.t 18) (.t 24), none, false⟩,
    ⟨some 26, .ld 1 false (.t 25), none, false⟩,
    ⟨some 27, .call 38 [((.t 26), false)] false, none, false⟩,
    ⟨some 2, .mv (.t 27), none, false⟩,
    ⟨some 3, .mv (.c (.dat (.bool true))), none, false⟩], []⟩
@[simp] def fn30 : AFun := ⟨1, [2, 3], false,
  .seq (.reg r30_0) (.seq (.seq (.reg r30_1) (.cond (.t 14) (.seq (.reg r30_2) (.ret)) (.skip))) (.seq (.reg r30_3) (.ret))), none⟩

theorem c30 : cFun Try.prog ann30 false 30 = some fn30 := by kernel_rfl

/-! 31: (*modelcheck/modelcheckref50.Journal).Last -/

def ann31 : Ann := [{ id := 0, live := [0] },
  { id := 1, live := [0] },
  { id := 2, live := [] },
  { id := 3, live := [0], marks := [(0, { md := .o }), (13, { md := .o })] }]

@[simp] def r31_0 : AReg := ⟨[0], [], [
    ⟨some 2, .mv (.c .nils), none, false⟩,
    ⟨some 3, .mv (.c (.dat (.bool false))), none, false⟩], []⟩
@[simp] def r31_1 : AReg := ⟨[0], [], [
    ⟨some 4, .mv (.t 0), none, false⟩,
    ⟨some 5, .bin .ptr .eql (.t 4) (.c .nilp), none, false⟩,
    ⟨some 6, .mv (.t 5), none, false⟩,
    ⟨some 7, .mv (.t 0), some (6, false), false⟩,
    ⟨some 8, .nilChk (.t 7), some (6, false), false⟩,
    ⟨some 9, .fAddr 1 (.t 8), some (6, false), false⟩,
    ⟨some 10, .ld 1 false (.t 9), some (6, false), false⟩,
    ⟨some 11, .len false (.t 10), some (6, false), false⟩,
    ⟨some 12, .bin .int .eql (.t 11) (.c (.dat (.int .i64 0))), some (6, false), false⟩,
    ⟨some 13, .pick (.t 6) (.c (.dat (.bool true))) (.t 12), none, false⟩], []⟩
@[simp] def r31_2 : AReg := ⟨[], [], [
    ⟨some 2, .mv (.c .nils), none, false⟩,
    ⟨some 3, .mv (.c (.dat (.bool false))), none, false⟩], []⟩
@[simp] def r31_3 : AReg := ⟨[0], [], [
    ⟨some 14, .bldS .o 1 [], none, true⟩,
    ⟨some 15, .mv (.t 0), none, false⟩,
    ⟨some 16, .nilChk (.t 15), none, false⟩,
    ⟨some 17, .fAddr 1 (.t 16), none, false⟩,
    ⟨some 18, .ld 1 false (.t 17), none, true⟩,
    ⟨some 19, .mv (.t 0), none, false⟩,
    ⟨some 20, .nilChk (.t 19), none, false⟩,
    ⟨some 21, .fAddr 1 (.t 20), none, false⟩,
    ⟨some 22, .ld 1 false (.t 21), none, true⟩,
    ⟨some 23, .len false (.t 22), none, false⟩,
    ⟨some 24, .bin .int .sub (.t 23) (.c (.dat (.int .i64 1))), none, false⟩,
    ⟨some 25, .iAddr 1 (.t 18) (.t 24), none, false⟩,
    ⟨some 26, .ld 1 false (.t 25), none, true⟩,
    ⟨some 27, .app .o 1 1 (.t 14) (.t 26), none, false⟩,
    ⟨some 2, .mv (.t 27), none, false⟩,
    ⟨some 3, .mv (.c (.dat (.bool true))), none, false⟩], [(0, 4), (0, 8), (0, 12)]⟩
@[simp] def fn31 : AFun := ⟨1, [2, 3], false,
  .seq (.reg r31_0) (.seq (.seq (.reg r31_1) (.cond (.t 13) (.seq (.reg r31_2) (.ret)) (.skip))) (.seq (.reg r31_3) (.ret))), none⟩

theorem c31 : cFun Try.prog ann31 false 31 = some fn31 := by kernel_rfl

/-! 32: (*modelcheck/journal.Journal).Len -/

def ann32 : Ann := [{ id := 0, live := [0] },
  { id := 1, live := [0], marks := [(1, { byRef := [0] })] },
  { id := 2, live := [] },
  { id := 3, live := [0] }]

@[simp] def r32_0 : AReg := ⟨[0], [], [
    ⟨some 2, .mv (.c (.dat (.int .i64 0))), none, false⟩], []⟩
@[simp] def r32_1 : AReg := ⟨[0], [], [
    ⟨some 3, .mv (.t 0), none, false⟩,
    ⟨some 4, .call 39 [((.t 3), true)] true, none, false⟩,
    ⟨some 5, .un .not (.t 4), none, false⟩], []⟩
@[simp] def r32_2 : AReg := ⟨[], [], [
    ⟨some 2, .mv (.c (.dat (.int .i64 0))), none, false⟩], []⟩
@[simp] def r32_3 : AReg := ⟨[0], [], [
    ⟨some 6, .mv (.t 0), none, false⟩,
    ⟨some 7, .nilChk (.t 6), none, false⟩,
    ⟨some 8, .fAddr 1 (.t 7), none, false⟩,
    ⟨some 9, .ld 1 false (.t 8), none, false⟩,
    ⟨some 10, .len false (.t 9), none, false⟩,
    ⟨some 2, .mv (.t 10), none, false⟩], []⟩
@[simp] def fn32 : AFun := ⟨1, [2], false,
  .seq (.reg r32_0) (.seq (.seq (.reg r32_1) (.cond (.t 5) (.seq (.reg r32_2) (.ret)) (.skip))) (.seq (.reg r32_3) (.ret))), none⟩

theorem c32 : cFun Try.prog ann32 false 32 = some fn32 := by kernel_rfl

/-! 33: (*modelcheck/modelcheckref50.Journal).Len -/

def ann33 : Ann := [{ id := 0, live := [0] },
  { id := 1, live := [0] },
  { id := 2, live := [] },
  { id := 3, live := [0] }]

@[simp] def r33_0 : AReg := ⟨[0], [], [
    ⟨some 2, .mv (.c (.dat (.int .i64 0))), none, false⟩], []⟩
@[simp] def r33_1 : AReg := ⟨[0], [], [
    ⟨some 3, .mv (.t 0), none, false⟩,
    ⟨some 4, .bin .ptr .eql (.t 3) (.c .nilp), none, false⟩], []⟩
@[simp] def r33_2 : AReg := ⟨[], [], [
    ⟨some 2, .mv (.c (.dat (.int .i64 0))), none, false⟩], []⟩
@[simp] def r33_3 : AReg := ⟨[0], [], [
    ⟨some 5, .mv (.t 0), none, false⟩,
    ⟨some 6, .nilChk (.t 5), none, false⟩,
    ⟨some 7, .fAddr 1 (.t 6), none, false⟩,
    ⟨some 8, .ld 1 false (.t 7), none, false⟩,
    ⟨some 9, .len false (.t 8), none, false⟩,
    ⟨some 2, .mv (.t 9), none, false⟩], []⟩
@[simp] def fn33 : AFun := ⟨1, [2], false,
  .seq (.reg r33_0) (.seq (.seq (.reg r33_1) (.cond (.t 4) (.seq (.reg r33_2) (.ret)) (.skip))) (.seq (.reg r33_3) (.ret))), none⟩

theorem c33 : cFun Try.prog ann33 false 33 = some fn33 := by kernel_rfl

/-! 34: (*modelcheck/journal.Disk).valid -/

def ann34 : Ann := [{ id := 0, live := [0] },
  { id := 1, live := [0] }]

@[simp] def r34_0 : AReg := ⟨[0], [], [
    ⟨some 2, .mv (.c (.dat (.bool false))), none, false⟩], []⟩
@[simp] def r34_1 : AReg := ⟨[0], [], [
    ⟨some 3, .mv (.t 0), none, false⟩,
    ⟨some 4, .bin .ptr .neq (.t 3) (.c .nilp), none, false⟩,
    ⟨some 5, .mv (.t 4), none, false⟩,
    ⟨some 6, .mv (.t 0), some (5, true), false⟩,
    ⟨some 7, .nilChk (.t 6), some (5, true), false⟩,
    ⟨some 8, .fAddr 4 (.t 7), some (5, true), false⟩,
    ⟨some 9, .ld 1 false (.t 8), some (5, true), false⟩,
    ⟨some 10, .pick (.t 5) (.t 9) (.c (.dat (.bool false))), none, false⟩,
    ⟨some 2, .mv (.t 10), none, false⟩], []⟩
@[simp] def fn34 : AFun := ⟨1, [2], false,
  .seq (.reg r34_0) (.seq (.reg r34_1) (.ret)), none⟩

theorem c34 : cFun Try.prog ann34 false 34 = some fn34 := by kernel_rfl

/-! 35: modelcheck/journal.number -/

def ann35 : Ann := [{ id := 0, live := [0] },
  { id := 1, live := [0] }]

@[simp] def r35_0 : AReg := ⟨[0], [], [
    ⟨some 2, .mv (.c (.dat (.int .u32 0))), none, false⟩], []⟩
@[simp] def r35_1 : AReg := ⟨[0], [], [
    ⟨some 3, .mv (.t 0), none, false⟩,
    ⟨some 4, .iAddr 1 (.t 3) (.c (.dat (.int .i64 0))), none, false⟩,
    ⟨some 5, .ld 1 false (.t 4), none, false⟩,
    ⟨some 6, .cvt .u32 (.t 5), none, false⟩,
    ⟨some 7, .mv (.t 0), none, false⟩,
    ⟨some 8, .iAddr 1 (.t 7) (.c (.dat (.int .i64 1))), none, false⟩,
    ⟨some 9, .ld 1 false (.t 8), none, false⟩,
    ⟨some 10, .cvt .u32 (.t 9), none, false⟩,
    ⟨some 11, .bin .int .shl (.t 10) (.c (.dat (.int .u64 8))), none, false⟩,
    ⟨some 12, .bin .int .or (.t 6) (.t 11), none, false⟩,
    ⟨some 13, .mv (.t 0), none, false⟩,
    ⟨some 14, .iAddr 1 (.t 13) (.c (.dat (.int .i64 2))), none, false⟩,
    ⟨some 15, .ld 1 false (.t 14), none, false⟩,
    ⟨some 16, .cvt .u32 (.t 15), none, false⟩,
    ⟨some 17, .bin .int .shl (.t 16) (.c (.dat (.int .u64 16))), none, false⟩,
    ⟨some 18, .bin .int .or (.t 12) (.t 17), none, false⟩,
    ⟨some 19, .mv (.t 0), none, false⟩,
    ⟨some 20, .iAddr 1 (.t 19) (.c (.dat (.int .i64 3))), none, false⟩,
    ⟨some 21, .ld 1 false (.t 20), none, false⟩,
    ⟨some 22, .cvt .u32 (.t 21), none, false⟩,
    ⟨some 23, .bin .int .shl (.t 22) (.c (.dat (.int .u64 24))), none, false⟩,
    ⟨some 24, .bin .int .or (.t 18) (.t 23), none, false⟩,
    ⟨some 2, .mv (.t 24), none, false⟩], []⟩
@[simp] def fn35 : AFun := ⟨1, [2], false,
  .seq (.reg r35_0) (.seq (.reg r35_1) (.ret)), none⟩

theorem c35 : cFun Try.prog ann35 false 35 = some fn35 := by kernel_rfl

/-! 36: (*modelcheck/journal.Disk).content -/

def ann36 : Ann := [{ id := 0, live := [0, 1] },
  { id := 1, live := [0, 1] },
  { id := 2, live := [0, 1, 5] },
  { id := 4, live := [0, 1, 5] },
  { id := 5, live := [0, 5] },
  { id := 3, live := [0, 1, 5] },
  { id := 6, live := [0, 1] }]

@[simp] def r36_0 : AReg := ⟨[0, 1], [], [
    ⟨some 4, .mv (.c .nils), none, false⟩], []⟩
@[simp] def r36_1 : AReg := ⟨[0, 1], [], [
    ⟨some 6, .mv (.t 0), none, false⟩,
    ⟨some 7, .nilChk (.t 6), none, false⟩,
    ⟨some 8, .fAddr 1 (.t 7), none, false⟩,
    ⟨some 9, .ld 1 false (.t 8), none, false⟩,
    ⟨some 10, .len false (.t 9), none, false⟩,
    ⟨some 11, .bin .int .sub (.t 10) (.c (.dat (.int .i64 1))), none, false⟩,
    ⟨some 5, .mv (.t 11), none, false⟩], []⟩
@[simp] def r36_2 : AReg := ⟨[0, 1, 5], [], [
    ⟨some 12, .mv (.t 5), none, false⟩,
    ⟨some 13, .bin .int .geq (.t 12) (.c (.dat (.int .i64 0))), none, false⟩], []⟩
@[simp] def r36_3 : AReg := ⟨[0, 1, 5], [], [
    ⟨some 16, .mv (.t 0), none, false⟩,
    ⟨some 17, .nilChk (.t 16), none, false⟩,
    ⟨some 18, .fAddr 1 (.t 17), none, false⟩,
    ⟨some 19, .ld 1 false (.t 18), none, false⟩,
    ⟨some 20, .mv (.t 5), none, false⟩,
    ⟨some 21, .iAddr 2 (.t 19) (.t 20), none, false⟩,
    ⟨some 22, .fAddr 0 (.t 21), none, false⟩,
    ⟨some 23, .ld 1 false (.t 22), none, false⟩,
    ⟨some 24, .mv (.t 1), none, false⟩,
    ⟨some 25, .bin .int .eql (.t 23) (.t 24), none, false⟩], []⟩
@[simp] def r36_4 : AReg := ⟨[0, 5], [], [
    ⟨some 26, .mv (.t 0), none, false⟩,
    ⟨some 27, .nilChk (.t 26), none, false⟩,
    ⟨some 28, .fAddr 1 (.t 27), none, false⟩,
    ⟨some 29, .ld 1 false (.t 28), none, false⟩,
    ⟨some 30, .mv (.t 5), none, false⟩,
    ⟨some 31, .iAddr 2 (.t 29) (.t 30), none, false⟩,
    ⟨some 32, .fAddr 1 (.t 31), none, false⟩,
    ⟨some 33, .ld 1 false (.t 32), none, false⟩,
    ⟨some 4, .mv (.t 33), none, false⟩], []⟩
@[simp] def r36_5 : AReg := ⟨[0, 1, 5], [], [
    ⟨some 14, .mv (.t 5), none, false⟩,
    ⟨some 15, .bin .int .sub (.t 14) (.c (.dat (.int .i64 1))), none, false⟩,
    ⟨some 5, .mv (.t 15), none, false⟩], []⟩
def l36_0 : AC := .seq (.seq (.reg r36_2) (.cond (.t 13) (.skip) (.exit 0))) (.seq (.block 1 (.seq (.reg r36_3) (.cond (.t 25) (.seq (.reg r36_4) (.ret)) (.skip)))) (.reg r36_5))
@[simp] theorem l36_0e (K : Orc) (s : St) : exec K l36_0 s = exec K (.seq (.seq (.reg r36_2) (.cond (.t 13) (.skip) (.exit 0))) (.seq (.block 1 (.seq (.reg r36_3) (.cond (.t 25) (.seq (.reg r36_4) (.ret)) (.skip)))) (.reg r36_5))) s := rfl
@[simp] def r36_6 : AReg := ⟨[0, 1], [], [
    ⟨some 34, .mv (.t 0), none, false⟩,
    ⟨some 35, .nilChk (.t 34), none, false⟩,
    ⟨some 36, .fAddr 0 (.t 35), none, false⟩,
    ⟨some 37, .ld 1 false (.t 36), none, false⟩,
    ⟨some 38, .mv (.t 1), none, false⟩,
    ⟨some 39, .iAddr 1 (.t 37) (.t 38), none, false⟩,
    ⟨some 40, .ld 1 false (.t 39), none, false⟩,
    ⟨some 4, .mv (.t 40), none, false⟩], []⟩
@[simp] def fn36 : AFun := ⟨2, [4], false,
  .seq (.reg r36_0) (.seq (.seq (.reg r36_1) (.block 0 (.loop l36_0))) (.seq (.reg r36_6) (.ret))), none⟩

theorem c36 : cFun Try.prog ann36 false 36 = some fn36 := by kernel_rfl

/-! 37: (*modelcheck/journal.Disk).record -/

def ann37 : Ann := [{ id := 0, live := [0, 1, 2] },
  { id := 1, live := [0, 1, 2] },
  { id := 2, live := [] },
  { id := 3, live := [0, 1, 2], marks := [(2, { byRef := [0] })] },
  { id := 4, live := [0, 1, 2, 9] },
  { id := 5, live := [0, 1, 2, 9, 10] },
  { id := 6, live := [0, 1, 2, 10, 11] },
  { id := 7, live := [] },
  { id := 8, live := [0, 1, 2, 10, 11], marks := [(0, { md := .o })] },
  { id := 9, live := [0, 1, 2, 10, 11, 12] },
  { id := 10, live := [0, 1, 2, 10, 11, 12, 59, 60], drop := [0, 12] },
  { id := 11, live := [0, 1, 2, 10, 11, 12, 59, 60] },
  { id := 12, live := [0, 1, 2, 10, 11, 12, 13, 59, 60], marks := [(5, { byRef := [0] }), (7, { md := .o })] },
  { id := 13, live := [0, 1, 2, 10, 11, 12, 59, 60] },
  { id := 14, live := [0, 1, 2, 10, 11, 12] },
  { id := 15, live := [0, 1, 2, 10, 11, 14, 16] },
  { id := 16, live := [] },
  { id := 17, live := [0, 1, 2, 10, 11, 14] },
  { id := 18, live := [0, 1, 11, 14, 17] },
  { id := 19, live := [] },
  { id := 20, live := [0, 1, 11, 14, 17] },
  { id := 21, live := [0, 1, 11, 14, 88, 89, 90], drop := [0, 14, 88] },
  { id := 22, live := [0, 1, 11, 14, 88, 89, 90] },
  { id := 23, live := [0, 1, 11, 14, 18, 19, 88, 89, 90], marks := [(5, { byRef := [0] })] },
  { id := 24, live := [] },
  { id := 25, live := [0, 1, 11, 14, 88, 89, 90] },
  { id := 26, live := [11, 14] }]

@[simp] def r37_0 : AReg := ⟨[0, 1, 2], [], [
    ⟨some 6, .mv (.c .nils), none, false⟩,
    ⟨some 7, .mv (.c (.dat (.int .i64 0))), none, false⟩,
    ⟨some 8, .mv (.c (.dat (.bool false))), none, false⟩], []⟩
@[simp] def r37_1 : AReg := ⟨[0, 1, 2], [], [
    ⟨some 20, .mv (.t 1), none, false⟩,
    ⟨some 21, .mv (.t 0), none, false⟩,
    ⟨some 22, .nilChk (.t 21), none, false⟩,
    ⟨some 23, .fAddr 0 (.t 22), none, false⟩,
    ⟨some 24, .ld 1 false (.t 23), none, false⟩,
    ⟨some 25, .len false (.t 24), none, false⟩,
    ⟨some 26, .bin .int .geq (.t 20) (.t 25), none, false⟩], []⟩
@[simp] def r37_2 : AReg := ⟨[], [], [
    ⟨some 6, .mv (.c .nils), none, false⟩,
    ⟨some 7, .mv (.c (.dat (.int .i64 0))), none, false⟩,
    ⟨some 8, .mv (.c (.dat (.bool false))), none, false⟩], []⟩
@[simp] def r37_3 : AReg := ⟨[0, 1, 2], [], [
    ⟨some 27, .mv (.t 0), none, false⟩,
    ⟨some 28, .mv (.t 1), none, false⟩,
    ⟨some 29, .call 36 [((.t 27), true), ((.t 28), false)] false, none, false⟩,
    ⟨some 9, .mv (.t 29), none, false⟩], []⟩
@[simp] def r37_4 : AReg := ⟨[0, 1, 2, 9], [], [
    ⟨some 30, .mv (.t 9), none, false⟩,
    ⟨some 31, .call 35 [((.t 30), false)] true, none, false⟩,
    ⟨some 10, .mv (.t 31), none, false⟩], []⟩
@[simp] def r37_5 : AReg := ⟨[0, 1, 2, 9, 10], [], [
    ⟨some 32, .mv (.t 9), none, false⟩,
    ⟨some 33, .iAddr 1 (.t 32) (.c (.dat (.int .i64 10))), none, false⟩,
    ⟨some 34, .ld 1 false (.t 33), none, false⟩,
    ⟨some 35, .cvt .i64 (.t 34), none, false⟩,
    ⟨some 36, .mv (.t 9), none, false⟩,
    ⟨some 37, .iAddr 1 (.t 36) (.c (.dat (.int .i64 11))), none, false⟩,
    ⟨some 38, .ld 1 false (.t 37), none, false⟩,
    ⟨some 39, .cvt .i64 (.t 38), none, false⟩,
    ⟨some 40, .bin .int .shl (.t 39) (.c (.dat (.int .u64 8))), none, false⟩,
    ⟨some 41, .bin .int .or (.t 35) (.t 40), none, false⟩,
    ⟨some 11, .mv (.t 41), none, false⟩], []⟩
@[simp] def r37_6 : AReg := ⟨[0, 1, 2, 10, 11], [], [
    ⟨some 42, .mv (.t 10), none, false⟩,
    ⟨some 43, .bin .int .eql (.t 42) (.c (.dat (.int .u32 0))), none, false⟩,
    ⟨some 44, .mv (.t 43), none, false⟩,
    ⟨some 45, .mv (.t 11), some (44, false), false⟩,
    ⟨some 46, .bin .int .eql (.t 45) (.c (.dat (.int .i64 0))), some (44, false), false⟩,
    ⟨some 47, .pick (.t 44) (.c (.dat (.bool true))) (.t 46), none, false⟩,
    ⟨some 48, .mv (.t 47), none, false⟩,
    ⟨some 49, .mv (.t 1), some (48, false), false⟩,
    ⟨some 50, .mv (.t 11), some (48, false), false⟩,
    ⟨some 51, .bin .int .add (.t 49) (.t 50), some (48, false), false⟩,
    ⟨some 52, .mv (.t 0), some (48, false), false⟩,
    ⟨some 53, .nilChk (.t 52), some (48, false), false⟩,
    ⟨some 54, .fAddr 0 (.t 53), some (48, false), false⟩,
    ⟨some 55, .ld 1 false (.t 54), some (48, false), false⟩,
    ⟨some 56, .len false (.t 55), some (48, false), false⟩,
    ⟨some 57, .bin .int .gtr (.t 51) (.t 56), some (48, false), false⟩,
    ⟨some 58, .pick (.t 48) (.c (.dat (.bool true))) (.t 57), none, false⟩], []⟩
@[simp] def r37_7 : AReg := ⟨[], [], [
    ⟨some 6, .mv (.c .nils), none, false⟩,
    ⟨some 7, .mv (.c (.dat (.int .i64 0))), none, false⟩,
    ⟨some 8, .mv (.c (.dat (.bool false))), none, false⟩], []⟩
@[simp] def r37_8 : AReg := ⟨[0, 1, 2, 10, 11], [], [
    ⟨some 12, .mvNil .o 1, none, false⟩], []⟩
@[simp] def r37_9 : AReg := ⟨[0, 1, 2, 10, 11, 12], [], [
    ⟨some 59, .mv (.t 11), none, false⟩,
    ⟨some 60, .mv (.c (.dat (.int .i64 0))), none, false⟩], []⟩
@[simp] def r37_10 : AReg := ⟨[0, 1, 2, 10, 11, 12, 59, 60], [0, 12], [
    ⟨some 61, .bin .int .lss (.t 60) (.t 59), none, false⟩], []⟩
@[simp] def r37_11 : AReg := ⟨[0, 1, 2, 10, 11, 12, 59, 60], [], [
    ⟨some 62, .mv (.t 60), none, false⟩,
    ⟨some 13, .mv (.t 62), none, false⟩], []⟩
@[simp] def r37_12 : AReg := ⟨[0, 1, 2, 10, 11, 12, 13, 59, 60], [], [
    ⟨some 63, .mv (.t 12), none, false⟩,
    ⟨some 64, .mv (.t 0), none, false⟩,
    ⟨some 65, .mv (.t 1), none, false⟩,
    ⟨some 66, .mv (.t 13), none, false⟩,
    ⟨some 67, .bin .int .add (.t 65) (.t 66), none, false⟩,
    ⟨some 68, .call 36 [((.t 64), true), ((.t 67), false)] false, none, false⟩,
    ⟨some 69, .slc false 1 (.t 68) (some (.c (.dat (.int .i64 12)))) none, none, false⟩,
    ⟨some 70, .app .o 1 1 (.t 63) (.t 69), none, false⟩,
    ⟨some 12, .mv (.t 70), none, false⟩], []⟩
@[simp] def r37_13 : AReg := ⟨[0, 1, 2, 10, 11, 12, 59, 60], [], [
    ⟨some 71, .bin .int .add (.t 60) (.c (.dat (.int .i64 1))), none, false⟩,
    ⟨some 60, .mv (.t 71), none, false⟩], []⟩
def l37_0 : AC := .seq (.reg r37_10) (.seq (.cond (.t 61) (.skip) (.exit 0)) (.seq (.block 1 (.seq (.reg r37_11) (.reg r37_12))) (.reg r37_13)))
@[simp] theorem l37_0e (K : Orc) (s : St) : exec K l37_0 s = exec K (.seq (.reg r37_10) (.seq (.cond (.t 61) (.skip) (.exit 0)) (.seq (.block 1 (.seq (.reg r37_11) (.reg r37_12))) (.reg r37_13)))) s := rfl
@[simp] def r37_14 : AReg := ⟨[0, 1, 2, 10, 11, 12], [], [
    ⟨some 73, .mv (.t 12), none, false⟩,
    ⟨some 74, .call 47 [((.t 73), false)] false, none, false⟩,
    ⟨some 72, .mv (.t 74), none, false⟩,
    ⟨some 75, .ext 0 (.t 72), none, false⟩,
    ⟨some 76, .ext 1 (.t 72), none, false⟩,
    ⟨some 77, .ext 2 (.t 72), none, false⟩,
    ⟨some 14, .mv (.t 75), none, false⟩,
    ⟨some 15, .mv (.t 76), none, false⟩,
    ⟨some 16, .mv (.t 77), none, false⟩], []⟩
@[simp] def r37_15 : AReg := ⟨[0, 1, 2, 10, 11, 14, 16], [], [
    ⟨some 78, .mv (.t 16), none, false⟩,
    ⟨some 79, .bin .int .neq (.t 78) (.c (.dat (.int .i64 0))), none, false⟩], []⟩
@[simp] def r37_16 : AReg := ⟨[], [], [
    ⟨some 6, .mv (.c .nils), none, false⟩,
    ⟨some 7, .mv (.c (.dat (.int .i64 0))), none, false⟩,
    ⟨some 8, .mv (.c (.dat (.bool false))), none, false⟩], []⟩
@[simp] def r37_17 : AReg := ⟨[0, 1, 2, 10, 11, 14], [], [
    ⟨some 80, .mv (.t 14), none, false⟩,
    ⟨some 81, .mv (.t 2), none, false⟩,
    ⟨some 82, .mv (.t 10), none, false⟩,
    ⟨some 83, .call 40 [((.t 80), false), ((.t 81), false), ((.t 82), false)] false, none, false⟩,
    ⟨some 17, .mv (.t 83), none, false⟩], []⟩
@[simp] def r37_18 : AReg := ⟨[0, 1, 11, 14, 17], [], [
    ⟨some 84, .mv (.t 17), none, false⟩,
    ⟨some 85, .len false (.t 84), none, false⟩,
    ⟨some 86, .mv (.t 11), none, false⟩,
    ⟨some 87, .bin .int .neq (.t 85) (.t 86), none, false⟩], []⟩
@[simp] def r37_19 : AReg := ⟨[], [], [
    ⟨some 6, .mv (.c .nils), none, false⟩,
    ⟨some 7, .mv (.c (.dat (.int .i64 0))), none, false⟩,
    ⟨some 8, .mv (.c (.dat (.bool false))), none, false⟩], []⟩
@[simp] def r37_20 : AReg := ⟨[0, 1, 11, 14, 17], [], [
    ⟨some 88, .mv (.t 17), none, false⟩,
    ⟨some 89, .len false (.t 88), none, false⟩,
    ⟨some 90, .mv (.c (.dat (.int .i64 0))), none, false⟩], []⟩
@[simp] def r37_21 : AReg := ⟨[0, 1, 11, 14, 88, 89, 90], [0, 14, 88], [
    ⟨some 91, .bin .int .lss (.t 90) (.t 89), none, false⟩], []⟩
@[simp] def r37_22 : AReg := ⟨[0, 1, 11, 14, 88, 89, 90], [], [
    ⟨some 92, .mv (.t 90), none, false⟩,
    ⟨some 93, .iAddr 1 (.t 88) (.t 90), none, false⟩,
    ⟨some 94, .ld 1 false (.t 93), none, false⟩,
    ⟨some 18, .mv (.t 92), none, false⟩,
    ⟨some 19, .mv (.t 94), none, false⟩], []⟩
@[simp] def r37_23 : AReg := ⟨[0, 1, 11, 14, 18, 19, 88, 89, 90], [], [
    ⟨some 95, .mv (.t 19), none, false⟩,
    ⟨some 96, .mv (.t 0), none, false⟩,
    ⟨some 97, .mv (.t 1), none, false⟩,
    ⟨some 98, .mv (.t 18), none, false⟩,
    ⟨some 99, .bin .int .add (.t 97) (.t 98), none, false⟩,
    ⟨some 100, .call 36 [((.t 96), true), ((.t 99), false)] false, none, false⟩,
    ⟨some 101, .call 48 [((.t 95), false), ((.t 100), false)] true, none, false⟩,
    ⟨some 102, .un .not (.t 101), none, false⟩], []⟩
@[simp] def r37_24 : AReg := ⟨[], [], [
    ⟨some 6, .mv (.c .nils), none, false⟩,
    ⟨some 7, .mv (.c (.dat (.int .i64 0))), none, false⟩,
    ⟨some 8, .mv (.c (.dat (.bool false))), none, false⟩], []⟩
@[simp] def r37_25 : AReg := ⟨[0, 1, 11, 14, 88, 89, 90], [], [
    ⟨some 103, .bin .int .add (.t 90) (.c (.dat (.int .i64 1))), none, false⟩,
    ⟨some 90, .mv (.t 103), none, false⟩], []⟩
def l37_1 : AC := .seq (.reg r37_21) (.seq (.cond (.t 91) (.skip) (.exit 2)) (.seq (.block 3 (.seq (.reg r37_22) (.seq (.reg r37_23) (.cond (.t 102) (.seq (.reg r37_24) (.ret)) (.skip))))) (.reg r37_25)))
@[simp] theorem l37_1e (K : Orc) (s : St) : exec K l37_1 s = exec K (.seq (.reg r37_21) (.seq (.cond (.t 91) (.skip) (.exit 2)) (.seq (.block 3 (.seq (.reg r37_22) (.seq (.reg r37_23) (.cond (.t 102) (.seq (.reg r37_24) (.ret)) (.skip))))) (.reg r37_25)))) s := rfl
@[simp] def r37_26 : AReg := ⟨[11, 14], [], [
    ⟨some 104, .mv (.t 14), none, false⟩,
    ⟨some 105, .mv (.t 11), none, false⟩,
    ⟨some 6, .mv (.t 104), none, false⟩,
    ⟨some 7, .mv (.t 105), none, false⟩,
    ⟨some 8, .mv (.c (.dat (.bool true))), none, false⟩], []⟩
@[simp] def fn37 : AFun := ⟨3, [6, 7, 8], false,
  .seq (.reg r37_0) (.seq (.seq (.reg r37_1) (.cond (.t 26) (.seq (.reg r37_2) (.ret)) (.skip))) (.seq (.reg r37_3) (.seq (.reg r37_4) (.seq (.reg r37_5) (.seq (.seq (.reg r37_6) (.cond (.t 58) (.seq (.reg r37_7) (.ret)) (.skip))) (.seq (.reg r37_8) (.seq (.seq (.reg r37_9) (.block 0 (.loop l37_0))) (.seq (.reg r37_14) (.seq (.seq (.reg r37_15) (.cond (.t 79) (.seq (.reg r37_16) (.ret)) (.skip))) (.seq (.reg r37_17) (.seq (.seq (.reg r37_18) (.cond (.t 87) (.seq (.reg r37_19) (.ret)) (.skip))) (.seq (.seq (.reg r37_20) (.block 2 (.loop l37_1))) (.seq (.reg r37_26) (.ret)))))))))))))), none⟩

theorem c37 : cFun Try.prog ann37 false 37 = some fn37 := by kernel_rfl

/-! 38: bytes.Clone -/

def ann38 : Ann := [{ id := 0, live := [0] },
  { id := 1, live := [0] },
  { id := 2, live := [] },
  { id := 3, live := [0], marks := [(0, { md := .o }), (2, { md := .o })] }]

@[simp] def r38_0 : AReg := ⟨[0], [], [
    ⟨some 2, .mv (.c .nils), none, false⟩], []⟩
@[simp] def r38_1 : AReg := ⟨[0], [], [
    ⟨some 3, .mv (.t 0), none, false⟩,
    ⟨some 4, .bin .slc .eql (.t 3) (.c .nils), none, false⟩], []⟩
@[simp] def r38_2 : AReg := ⟨[], [], [
    ⟨some 2, .mv (.c .nils), none, false⟩], []⟩
@[simp] def r38_3 : AReg := ⟨[0], [], [
    ⟨some 5, .bldS .o 1 [], none, false⟩,
    ⟨some 6, .mv (.t 0), none, false⟩,
    ⟨some 7, .app .o 1 1 (.t 5) (.t 6), none, false⟩,
    ⟨some 2, .mv (.t 7), none, false⟩], []⟩
@[simp] def fn38 : AFun := ⟨1, [2], false,
  .seq (.reg r38_0) (.seq (.seq (.reg r38_1) (.cond (.t 4) (.seq (.reg r38_2) (.ret)) (.skip))) (.seq (.reg r38_3) (.ret))), none⟩

theorem c38 : cFun Try.prog ann38 false 38 = some fn38 := by kernel_rfl

/-! 39: (*modelcheck/journal.Journal).valid -/

def ann39 : Ann := [{ id := 0, live := [0] },
  { id := 1, live := [0] }]

@[simp] def r39_0 : AReg := ⟨[0], [], [
    ⟨some 2, .mv (.c (.dat (.bool false))), none, false⟩], []⟩
@[simp] def r39_1 : AReg := ⟨[0], [], [
    ⟨some 3, .mv (.t 0), none, false⟩,
    ⟨some 4, .bin .ptr .neq (.t 3) (.c .nilp), none, false⟩,
    ⟨some 5, .mv (.t 4), none, false⟩,
    ⟨some 6, .mv (.t 0), some (5, true), false⟩,
    ⟨some 7, .nilChk (.t 6), some (5, true), false⟩,
    ⟨some 8, .fAddr 0 (.t 7), some (5, true), false⟩,
    ⟨some 9, .ld 1 false (.t 8), some (5, true), false⟩,
    ⟨some 10, .bin .ptr .neq (.t 9) (.c .nilp), some (5, true), false⟩,
    ⟨some 11, .pick (.t 5) (.t 10) (.c (.dat (.bool false))), none, false⟩,
    ⟨some 2, .mv (.t 11), none, false⟩], []⟩
@[simp] def fn39 : AFun := ⟨1, [2], false,
  .seq (.reg r39_0) (.seq (.reg r39_1) (.ret)), none⟩

theorem c39 : cFun Try.prog ann39 false 39 = some fn39 := by kernel_rfl

/-! 40: modelcheck/journal.image -/

def ann40 : Ann := [{ id := 0, live := [0, 1, 2] },
  { id := 1, live := [0, 1, 2] },
  { id := 2, live := [1, 2, 7] },
  { id := 3, live := [1, 2, 7, 8], marks := [(0, { md := .o })] },
  { id := 4, live := [1, 2, 7, 8, 9] },
  { id := 5, live := [1, 2, 7, 8, 9, 22, 23], drop := [7, 9] },
  { id := 6, live := [1, 2, 7, 8, 9, 22, 23] },
  { id := 7, live := [1, 2, 7, 8, 9, 10, 22, 23], marks := [(0, { md := .o })] },
  { id := 8, live := [1, 2, 7, 8, 9, 10, 11, 22, 23] },
  { id := 9, live := [1, 2, 7, 8, 9, 10, 11, 22, 23, 29, 30, 31] },
  { id := 10, live := [1, 2, 7, 8, 9, 10, 11, 22, 23, 29, 30, 31] },
  { id := 11, live := [1, 2, 7, 8, 9, 10, 11, 12, 13, 22, 23, 29, 30, 31] },
  { id := 12, live := [1, 2, 7, 8, 9, 10, 11, 12, 13, 22, 23, 29, 30, 31] },
  { id := 13, live := [1, 2, 7, 8, 9, 10, 11, 12, 13, 22, 23, 29, 30, 31] },
  { id := 14, live := [1, 2, 7, 8, 9, 10, 11, 12, 13, 22, 23, 29, 30, 31] },
  { id := 15, live := [1, 2, 7, 8, 9, 10, 11, 22, 23, 29, 30, 31] },
  { id := 16, live := [1, 2, 7, 8, 9, 10, 11, 22, 23] },
  { id := 17, live := [1, 2, 7, 8, 9, 10, 11, 22, 23] },
  { id := 18, live := [1, 2, 7, 8, 9, 11, 14, 22, 23] },
  { id := 19, live := [1, 2, 7, 8, 9, 11, 22, 23], marks := [(3, { md := .o })] },
  { id := 20, live := [1, 2, 7, 8, 9, 22, 23] },
  { id := 21, live := [9] }]

@[simp] def r40_0 : AReg := ⟨[0, 1, 2], [], [
    ⟨some 6, .mv (.c .nils), none, false⟩], []⟩
@[simp] def r40_1 : AReg := ⟨[0, 1, 2], [], [
    ⟨some 15, .mv (.t 0), none, false⟩,
    ⟨some 16, .call 49 [((.t 15), false)] false, none, false⟩,
    ⟨some 7, .mv (.t 16), none, false⟩], []⟩
@[simp] def r40_2 : AReg := ⟨[1, 2, 7], [], [
    ⟨some 17, .mv (.t 7), none, false⟩,
    ⟨some 18, .len false (.t 17), none, false⟩,
    ⟨some 19, .bin .int .add (.t 18) (.c (.dat (.int .i64 52))), none, false⟩,
    ⟨some 20, .bin .int .sub (.t 19) (.c (.dat (.int .i64 1))), none, false⟩,
    ⟨some 21, .bin .int .quo (.t 20) (.c (.dat (.int .i64 52))), none, false⟩,
    ⟨some 8, .mv (.t 21), none, false⟩], []⟩
@[simp] def r40_3 : AReg := ⟨[1, 2, 7, 8], [], [
    ⟨some 9, .mvNil .o 1, none, false⟩], []⟩
@[simp] def r40_4 : AReg := ⟨[1, 2, 7, 8, 9], [], [
    ⟨some 22, .mv (.t 8), none, false⟩,
    ⟨some 23, .mv (.c (.dat (.int .i64 0))), none, false⟩], []⟩
@[simp] def r40_5 : AReg := ⟨[1, 2, 7, 8, 9, 22, 23], [7, 9], [
    ⟨some 24, .bin .int .lss (.t 23) (.t 22), none, false⟩], []⟩
@[simp] def r40_6 : AReg := ⟨[1, 2, 7, 8, 9, 22, 23], [], [
    ⟨some 25, .mv (.t 23), none, false⟩,
    ⟨some 10, .mv (.t 25), none, false⟩], []⟩
@[simp] def r40_7 : AReg := ⟨[1, 2, 7, 8, 9, 10, 22, 23], [], [
    ⟨some 26, .mk .o 1 1 [(.dat (.int .u8 0))] (.c (.dat (.int .i64 64))) (.c (.dat (.int .i64 64))), none, false⟩,
    ⟨some 11, .mv (.t 26), none, false⟩], []⟩
@[simp] def r40_8 : AReg := ⟨[1, 2, 7, 8, 9, 10, 11, 22, 23], [], [
    ⟨some 27, .mv (.t 2), none, false⟩,
    ⟨some 28, .mv (.t 1), none, false⟩,
    ⟨some 29, .bldS .d 1 [(.t 27), (.t 28)], none, false⟩,
    ⟨some 30, .len false (.t 29), none, false⟩,
    ⟨some 31, .mv (.c (.dat (.int .i64 0))), none, false⟩], []⟩
@[simp] def r40_9 : AReg := ⟨[1, 2, 7, 8, 9, 10, 11, 22, 23, 29, 30, 31], [], [
    ⟨some 32, .bin .int .lss (.t 31) (.t 30), none, false⟩], []⟩
@[simp] def r40_10 : AReg := ⟨[1, 2, 7, 8, 9, 10, 11, 22, 23, 29, 30, 31], [], [
    ⟨some 33, .mv (.t 31), none, false⟩,
    ⟨some 34, .iAddr 1 (.t 29) (.t 31), none, false⟩,
    ⟨some 35, .ld 1 false (.t 34), none, false⟩,
    ⟨some 12, .mv (.t 33), none, false⟩,
    ⟨some 13, .mv (.t 35), none, false⟩], []⟩
@[simp] def r40_11 : AReg := ⟨[1, 2, 7, 8, 9, 10, 11, 12, 13, 22, 23, 29, 30, 31], [], [
    ⟨some 36, .mv (.t 11), none, false⟩,
    ⟨some 37, .mv (.t 12), none, false⟩,
    ⟨some 38, .bin .int .mul (.c (.dat (.int .i64 4))) (.t 37), none, false⟩,
    ⟨some 39, .mv (.t 13), none, false⟩,
    ⟨some 40, .cvt .u8 (.t 39), none, false⟩,
    ⟨some 41, .iAddr 1 (.t 36) (.t 38), none, false⟩,
    ⟨none, .st 1 (.t 41) (.t 40), none, false⟩], []⟩
@[simp] def r40_12 : AReg := ⟨[1, 2, 7, 8, 9, 10, 11, 12, 13, 22, 23, 29, 30, 31], [], [
    ⟨some 42, .mv (.t 11), none, false⟩,
    ⟨some 43, .mv (.t 12), none, false⟩,
    ⟨some 44, .bin .int .mul (.c (.dat (.int .i64 4))) (.t 43), none, false⟩,
    ⟨some 45, .bin .int .add (.t 44) (.c (.dat (.int .i64 1))), none, false⟩,
    ⟨some 46, .mv (.t 13), none, false⟩,
    ⟨some 47, .bin .int .shr (.t 46) (.c (.dat (.int .u64 8))), none, false⟩,
    ⟨some 48, .cvt .u8 (.t 47), none, false⟩,
    ⟨some 49, .iAddr 1 (.t 42) (.t 45), none, false⟩,
    ⟨none, .st 1 (.t 49) (.t 48), none, false⟩], []⟩
@[simp] def r40_13 : AReg := ⟨[1, 2, 7, 8, 9, 10, 11, 12, 13, 22, 23, 29, 30, 31], [], [
    ⟨some 50, .mv (.t 11), none, false⟩,
    ⟨some 51, .mv (.t 12), none, false⟩,
    ⟨some 52, .bin .int .mul (.c (.dat (.int .i64 4))) (.t 51), none, false⟩,
    ⟨some 53, .bin .int .add (.t 52) (.c (.dat (.int .i64 2))), none, false⟩,
    ⟨some 54, .mv (.t 13), none, false⟩,
    ⟨some 55, .bin .int .shr (.t 54) (.c (.dat (.int .u64 16))), none, false⟩,
    ⟨some 56, .cvt .u8 (.t 55), none, false⟩,
    ⟨some 57, .iAddr 1 (.t 50) (.t 53), none, false⟩,
    ⟨none, .st 1 (.t 57) (.t 56), none, false⟩], []⟩
@[simp] def r40_14 : AReg := ⟨[1, 2, 7, 8, 9, 10, 11, 12, 13, 22, 23, 29, 30, 31], [], [
    ⟨some 58, .mv (.t 11), none, false⟩,
    ⟨some 59, .mv (.t 12), none, false⟩,
    ⟨some 60, .bin .int .mul (.c (.dat (.int .i64 4))) (.t 59), none, false⟩,
    ⟨some 61, .bin .int .add (.t 60) (.c (.dat (.int .i64 3))), none, false⟩,
    ⟨some 62, .mv (.t 13), none, false⟩,
    ⟨some 63, .bin .int .shr (.t 62) (.c (.dat (.int .u64 24))), none, false⟩,
    ⟨some 64, .cvt .u8 (.t 63), none, false⟩,
    ⟨some 65, .iAddr 1 (.t 58) (.t 61), none, false⟩,
    ⟨none, .st 1 (.t 65) (.t 64), none, false⟩], []⟩
@[simp] def r40_15 : AReg := ⟨[1, 2, 7, 8, 9, 10, 11, 22, 23, 29, 30, 31], [], [
    ⟨some 66, .bin .int .add (.t 31) (.c (.dat (.int .i64 1))), none, false⟩,
    ⟨some 31, .mv (.t 66), none, false⟩], []⟩
def l40_0 : AC := .seq (.reg r40_9) (.seq (.cond (.t 32) (.skip) (.exit 2)) (.seq (.block 3 (.seq (.reg r40_10) (.seq (.reg r40_11) (.seq (.reg r40_12) (.seq (.reg r40_13) (.reg r40_14)))))) (.reg r40_15)))
@[simp] theorem l40_0e (K : Orc) (s : St) : exec K l40_0 s = exec K (.seq (.reg r40_9) (.seq (.cond (.t 32) (.skip) (.exit 2)) (.seq (.block 3 (.seq (.reg r40_10) (.seq (.reg r40_11) (.seq (.reg r40_12) (.seq (.reg r40_13) (.reg r40_14)))))) (.reg r40_15)))) s := rfl
@[simp] def r40_16 : AReg := ⟨[1, 2, 7, 8, 9, 10, 11, 22, 23], [], [
    ⟨some 67, .mv (.t 11), none, false⟩,
    ⟨some 68, .mv (.t 11), none, false⟩,
    ⟨some 69, .mv (.t 11), none, false⟩,
    ⟨some 70, .mv (.t 11), none, false⟩,
    ⟨some 71, .mv (.t 10), none, false⟩,
    ⟨some 72, .cvt .u8 (.t 71), none, false⟩,
    ⟨some 73, .mv (.t 10), none, false⟩,
    ⟨some 74, .bin .int .shr (.t 73) (.c (.dat (.int .u64 8))), none, false⟩,
    ⟨some 75, .cvt .u8 (.t 74), none, false⟩,
    ⟨some 76, .mv (.t 8), none, false⟩,
    ⟨some 77, .cvt .u8 (.t 76), none, false⟩,
    ⟨some 78, .mv (.t 8), none, false⟩,
    ⟨some 79, .bin .int .shr (.t 78) (.c (.dat (.int .u64 8))), none, false⟩,
    ⟨some 80, .cvt .u8 (.t 79), none, false⟩,
    ⟨some 81, .iAddr 1 (.t 67) (.c (.dat (.int .i64 8))), none, false⟩,
    ⟨none, .st 1 (.t 81) (.t 72), none, false⟩,
    ⟨some 82, .iAddr 1 (.t 68) (.c (.dat (.int .i64 9))), none, false⟩,
    ⟨none, .st 1 (.t 82) (.t 75), none, false⟩,
    ⟨some 83, .iAddr 1 (.t 69) (.c (.dat (.int .i64 10))), none, false⟩,
    ⟨none, .st 1 (.t 83) (.t 77), none, false⟩,
    ⟨some 84, .iAddr 1 (.t 70) (.c (.dat (.int .i64 11))), none, false⟩,
    ⟨none, .st 1 (.t 84) (.t 80), none, false⟩], []⟩
@[simp] def r40_17 : AReg := ⟨[1, 2, 7, 8, 9, 10, 11, 22, 23], [], [
    ⟨some 85, .mv (.t 11), none, false⟩,
    ⟨some 86, .slc false 1 (.t 85) (some (.c (.dat (.int .i64 12)))) none, none, false⟩,
    ⟨some 87, .mv (.t 7), none, false⟩,
    ⟨some 88, .mv (.t 10), none, false⟩,
    ⟨some 89, .bin .int .mul (.c (.dat (.int .i64 52))) (.t 88), none, false⟩,
    ⟨some 90, .slc false 1 (.t 87) (some (.t 89)) none, none, false⟩,
    ⟨some 91, .cpy 1 (.t 86) (.t 90), none, false⟩,
    ⟨some 14, .mv (.t 91), none, false⟩], []⟩
@[simp] def r40_18 : AReg := ⟨[1, 2, 7, 8, 9, 11, 14, 22, 23], [], [
    ⟨some 92, .mv (.t 11), none, false⟩,
    ⟨some 93, .mv (.t 14), none, false⟩,
    ⟨some 94, .bin .int .add (.c (.dat (.int .i64 12))) (.t 93), none, false⟩,
    ⟨some 95, .slc false 1 (.t 92) (some (.t 94)) none, none, false⟩,
    ⟨none, .clr [(.dat (.int .u8 0))] (.t 95), none, false⟩], []⟩
@[simp] def r40_19 : AReg := ⟨[1, 2, 7, 8, 9, 11, 22, 23], [], [
    ⟨some 96, .mv (.t 9), none, false⟩,
    ⟨some 97, .mv (.t 11), none, false⟩,
    ⟨some 98, .bldS .d 1 [(.t 97)], none, false⟩,
    ⟨some 99, .app .o 1 24 (.t 96) (.t 98), none, false⟩,
    ⟨some 9, .mv (.t 99), none, false⟩], []⟩
@[simp] def r40_20 : AReg := ⟨[1, 2, 7, 8, 9, 22, 23], [], [
    ⟨some 100, .bin .int .add (.t 23) (.c (.dat (.int .i64 1))), none, false⟩,
    ⟨some 23, .mv (.t 100), none, false⟩], []⟩
def l40_1 : AC := .seq (.reg r40_5) (.seq (.cond (.t 24) (.skip) (.exit 0)) (.seq (.block 1 (.seq (.reg r40_6) (.seq (.reg r40_7) (.seq (.seq (.reg r40_8) (.block 2 (.loop l40_0))) (.seq (.reg r40_16) (.seq (.reg r40_17) (.seq (.reg r40_18) (.reg r40_19)))))))) (.reg r40_20)))
@[simp] theorem l40_1e (K : Orc) (s : St) : exec K l40_1 s = exec K (.seq (.reg r40_5) (.seq (.cond (.t 24) (.skip) (.exit 0)) (.seq (.block 1 (.seq (.reg r40_6) (.seq (.reg r40_7) (.seq (.seq (.reg r40_8) (.block 2 (.loop l40_0))) (.seq (.reg r40_16) (.seq (.reg r40_17) (.seq (.reg r40_18) (.reg r40_19)))))))) (.reg r40_20)))) s := rfl
@[simp] def r40_21 : AReg := ⟨[9], [], [
    ⟨some 101, .mv (.t 9), none, false⟩,
    ⟨some 6, .mv (.t 101), none, false⟩], []⟩
@[simp] def fn40 : AFun := ⟨3, [6], false,
  .seq (.reg r40_0) (.seq (.reg r40_1) (.seq (.reg r40_2) (.seq (.reg r40_3) (.seq (.seq (.reg r40_4) (.block 0 (.loop l40_1))) (.seq (.reg r40_21) (.ret)))))), none⟩

theorem c40 : cFun Try.prog ann40 false 40 = some fn40 := by kernel_rfl

/-! 41: modelcheck/modelcheckref50.number -/

def ann41 : Ann := [{ id := 0, live := [0] },
  { id := 1, live := [0] },
  { id := 2, live := [0, 3] },
  { id := 3, live := [0, 3, 4] },
  { id := 5, live := [0, 3, 4] },
  { id := 4, live := [0, 3, 4] },
  { id := 6, live := [3] }]

@[simp] def r41_0 : AReg := ⟨[0], [], [
    ⟨some 2, .mv (.c (.dat (.int .i64 0))), none, false⟩], []⟩
@[simp] def r41_1 : AReg := ⟨[0], [], [
    ⟨some 3, .mv (.c (.dat (.int .i64 0))), none, false⟩], []⟩
@[simp] def r41_2 : AReg := ⟨[0, 3], [], [
    ⟨some 5, .mv (.t 0), none, false⟩,
    ⟨some 6, .len false (.t 5), none, false⟩,
    ⟨some 7, .bin .int .sub (.t 6) (.c (.dat (.int .i64 1))), none, false⟩,
    ⟨some 4, .mv (.t 7), none, false⟩], []⟩
@[simp] def r41_3 : AReg := ⟨[0, 3, 4], [], [
    ⟨some 8, .mv (.t 4), none, false⟩,
    ⟨some 9, .bin .int .geq (.t 8) (.c (.dat (.int .i64 0))), none, false⟩], []⟩
@[simp] def r41_4 : AReg := ⟨[0, 3, 4], [], [
    ⟨some 12, .mv (.t 3), none, false⟩,
    ⟨some 13, .bin .int .mul (.c (.dat (.int .i64 256))) (.t 12), none, false⟩,
    ⟨some 14, .mv (.t 0), none, false⟩,
    ⟨some 15, .mv (.t 4), none, false⟩,
    ⟨some 16, .iAddr 1 (.t 14) (.t 15), none, false⟩,
    ⟨some 17, .ld 1 false (.t 16), none, false⟩,
    ⟨some 18, .cvt .i64 (.t 17), none, false⟩,
    ⟨some 19, .bin .int .add (.t 13) (.t 18), none, false⟩,
    ⟨some 3, .mv (.t 19), none, false⟩], []⟩
@[simp] def r41_5 : AReg := ⟨[0, 3, 4], [], [
    ⟨some 10, .mv (.t 4), none, false⟩,
    ⟨some 11, .bin .int .sub (.t 10) (.c (.dat (.int .i64 1))), none, false⟩,
    ⟨some 4, .mv (.t 11), none, false⟩], []⟩
def l41_0 : AC := .seq (.seq (.reg r41_3) (.cond (.t 9) (.skip) (.exit 0))) (.seq (.block 1 (.reg r41_4)) (.reg r41_5))
@[simp] theorem l41_0e (K : Orc) (s : St) : exec K l41_0 s = exec K (.seq (.seq (.reg r41_3) (.cond (.t 9) (.skip) (.exit 0))) (.seq (.block 1 (.reg r41_4)) (.reg r41_5))) s := rfl
@[simp] def r41_6 : AReg := ⟨[3], [], [
    ⟨some 20, .mv (.t 3), none, false⟩,
    ⟨some 2, .mv (.t 20), none, false⟩], []⟩
@[simp] def fn41 : AFun := ⟨1, [2], false,
  .seq (.reg r41_0) (.seq (.reg r41_1) (.seq (.seq (.reg r41_2) (.block 0 (.loop l41_0))) (.seq (.reg r41_6) (.ret)))), none⟩

theorem c41 : cFun Try.prog ann41 false 41 = some fn41 := by kernel_rfl

/-! 42: modelcheck/modelcheckref50.record -/

def ann42 : Ann := [{ id := 0, live := [0, 1, 2] },
  { id := 1, live := [0, 1, 2] },
  { id := 2, live := [] },
  { id := 3, live := [0, 1, 2] },
  { id := 4, live := [0, 1, 2, 8, 9] },
  { id := 5, live := [] },
  { id := 6, live := [0, 1, 2, 8, 9], marks := [(0, { md := .o })] },
  { id := 7, live := [0, 1, 2, 8, 9, 10] },
  { id := 8, live := [0, 1, 2, 8, 9, 10, 11], drop := [0, 10] },
  { id := 10, live := [0, 1, 2, 8, 9, 10, 11], marks := [(8, { md := .o })] },
  { id := 9, live := [0, 1, 2, 8, 9, 10, 11] },
  { id := 11, live := [0, 1, 2, 8, 9, 10] },
  { id := 12, live := [0, 1, 2, 8, 9, 12, 14] },
  { id := 13, live := [] },
  { id := 14, live := [0, 1, 2, 8, 9, 12] },
  { id := 15, live := [0, 1, 9, 12, 15] },
  { id := 16, live := [] },
  { id := 17, live := [0, 1, 9, 12, 15] },
  { id := 18, live := [0, 1, 9, 12, 15, 16], drop := [0, 12, 15] },
  { id := 20, live := [0, 1, 9, 12, 15, 16] },
  { id := 21, live := [] },
  { id := 19, live := [0, 1, 9, 12, 15, 16] },
  { id := 22, live := [9, 12] }]

@[simp] def r42_0 : AReg := ⟨[0, 1, 2], [], [
    ⟨some 6, .mv (.c .nils), none, false⟩,
    ⟨some 7, .mv (.c (.dat (.int .i64 0))), none, false⟩], []⟩
@[simp] def r42_1 : AReg := ⟨[0, 1, 2], [], [
    ⟨some 17, .mv (.t 1), none, false⟩,
    ⟨some 18, .mv (.t 0), none, false⟩,
    ⟨some 19, .len false (.t 18), none, false⟩,
    ⟨some 20, .bin .int .geq (.t 17) (.t 19), none, false⟩], []⟩
@[simp] def r42_2 : AReg := ⟨[], [], [
    ⟨some 6, .mv (.c .nils), none, false⟩,
    ⟨some 7, .mv (.c (.dat (.int .i64 0))), none, false⟩], []⟩
@[simp] def r42_3 : AReg := ⟨[0, 1, 2], [], [
    ⟨some 21, .mv (.t 0), none, false⟩,
    ⟨some 22, .mv (.t 1), none, false⟩,
    ⟨some 23, .iAddr 1 (.t 21) (.t 22), none, false⟩,
    ⟨some 24, .ld 1 false (.t 23), none, false⟩,
    ⟨some 25, .slc false 1 (.t 24) none (some (.c (.dat (.int .i64 4)))), none, false⟩,
    ⟨some 26, .call 41 [((.t 25), false)] true, none, true⟩,
    ⟨some 27, .mv (.t 0), none, false⟩,
    ⟨some 28, .mv (.t 1), none, false⟩,
    ⟨some 29, .iAddr 1 (.t 27) (.t 28), none, false⟩,
    ⟨some 30, .ld 1 false (.t 29), none, true⟩,
    ⟨some 31, .slc false 1 (.t 30) (some (.c (.dat (.int .i64 10)))) (some (.c (.dat (.int .i64 12)))), none, false⟩,
    ⟨some 32, .call 41 [((.t 31), false)] true, none, false⟩,
    ⟨some 8, .mv (.t 26), none, false⟩,
    ⟨some 9, .mv (.t 32), none, false⟩], [(5, 9)]⟩
@[simp] def r42_4 : AReg := ⟨[0, 1, 2, 8, 9], [], [
    ⟨some 33, .mv (.t 8), none, false⟩,
    ⟨some 34, .bin .int .lss (.t 33) (.c (.dat (.int .i64 1))), none, false⟩,
    ⟨some 35, .mv (.t 34), none, false⟩,
    ⟨some 36, .mv (.t 9), some (35, false), false⟩,
    ⟨some 37, .bin .int .lss (.t 36) (.c (.dat (.int .i64 1))), some (35, false), false⟩,
    ⟨some 38, .pick (.t 35) (.c (.dat (.bool true))) (.t 37), none, false⟩,
    ⟨some 39, .mv (.t 38), none, false⟩,
    ⟨some 40, .mv (.t 9), some (39, false), false⟩,
    ⟨some 41, .mv (.t 0), some (39, false), false⟩,
    ⟨some 42, .len false (.t 41), some (39, false), false⟩,
    ⟨some 43, .mv (.t 1), some (39, false), false⟩,
    ⟨some 44, .bin .int .sub (.t 42) (.t 43), some (39, false), false⟩,
    ⟨some 45, .bin .int .gtr (.t 40) (.t 44), some (39, false), false⟩,
    ⟨some 46, .pick (.t 39) (.c (.dat (.bool true))) (.t 45), none, false⟩], []⟩
@[simp] def r42_5 : AReg := ⟨[], [], [
    ⟨some 6, .mv (.c .nils), none, false⟩,
    ⟨some 7, .mv (.c (.dat (.int .i64 0))), none, false⟩], []⟩
@[simp] def r42_6 : AReg := ⟨[0, 1, 2, 8, 9], [], [
    ⟨some 10, .mvNil .o 1, none, false⟩], []⟩
@[simp] def r42_7 : AReg := ⟨[0, 1, 2, 8, 9, 10], [], [
    ⟨some 11, .mv (.c (.dat (.int .i64 0))), none, false⟩], []⟩
@[simp] def r42_8 : AReg := ⟨[0, 1, 2, 8, 9, 10, 11], [0, 10], [
    ⟨some 47, .mv (.t 11), none, false⟩,
    ⟨some 48, .mv (.t 9), none, false⟩,
    ⟨some 49, .bin .int .lss (.t 47) (.t 48), none, false⟩], []⟩
@[simp] def r42_9 : AReg := ⟨[0, 1, 2, 8, 9, 10, 11], [], [
    ⟨some 52, .mv (.t 10), none, false⟩,
    ⟨some 53, .mv (.t 0), none, false⟩,
    ⟨some 54, .mv (.t 1), none, false⟩,
    ⟨some 55, .mv (.t 11), none, false⟩,
    ⟨some 56, .bin .int .add (.t 54) (.t 55), none, false⟩,
    ⟨some 57, .iAddr 1 (.t 53) (.t 56), none, false⟩,
    ⟨some 58, .ld 1 false (.t 57), none, false⟩,
    ⟨some 59, .slc false 1 (.t 58) (some (.c (.dat (.int .i64 12)))) none, none, false⟩,
    ⟨some 60, .app .o 1 1 (.t 52) (.t 59), none, false⟩,
    ⟨some 10, .mv (.t 60), none, false⟩], []⟩
@[simp] def r42_10 : AReg := ⟨[0, 1, 2, 8, 9, 10, 11], [], [
    ⟨some 50, .mv (.t 11), none, false⟩,
    ⟨some 51, .bin .int .add (.t 50) (.c (.dat (.int .i64 1))), none, false⟩,
    ⟨some 11, .mv (.t 51), none, false⟩], []⟩
def l42_0 : AC := .seq (.seq (.reg r42_8) (.cond (.t 49) (.skip) (.exit 0))) (.seq (.block 1 (.reg r42_9)) (.reg r42_10))
@[simp] theorem l42_0e (K : Orc) (s : St) : exec K l42_0 s = exec K (.seq (.seq (.reg r42_8) (.cond (.t 49) (.skip) (.exit 0))) (.seq (.block 1 (.reg r42_9)) (.reg r42_10))) s := rfl
@[simp] def r42_11 : AReg := ⟨[0, 1, 2, 8, 9, 10], [], [
    ⟨some 62, .mv (.t 10), none, false⟩,
    ⟨some 63, .call 50 [((.t 62), false)] false, none, false⟩,
    ⟨some 61, .mv (.t 63), none, false⟩,
    ⟨some 64, .ext 0 (.t 61), none, false⟩,
    ⟨some 65, .ext 1 (.t 61), none, false⟩,
    ⟨some 66, .ext 2 (.t 61), none, false⟩,
    ⟨some 12, .mv (.t 64), none, false⟩,
    ⟨some 13, .mv (.t 65), none, false⟩,
    ⟨some 14, .mv (.t 66), none, false⟩], []⟩
@[simp] def r42_12 : AReg := ⟨[0, 1, 2, 8, 9, 12, 14], [], [
    ⟨some 67, .mv (.t 14), none, false⟩,
    ⟨some 68, .bin .int .neq (.t 67) (.c (.dat (.int .i64 0))), none, false⟩], []⟩
@[simp] def r42_13 : AReg := ⟨[], [], [
    ⟨some 6, .mv (.c .nils), none, false⟩,
    ⟨some 7, .mv (.c (.dat (.int .i64 0))), none, false⟩], []⟩
@[simp] def r42_14 : AReg := ⟨[0, 1, 2, 8, 9, 12], [], [
    ⟨some 69, .mv (.t 8), none, false⟩,
    ⟨some 70, .mv (.t 2), none, false⟩,
    ⟨some 71, .mv (.t 12), none, false⟩,
    ⟨some 72, .call 46 [((.t 69), false), ((.t 70), false), ((.t 71), false)] false, none, false⟩,
    ⟨some 15, .mv (.t 72), none, false⟩], []⟩
@[simp] def r42_15 : AReg := ⟨[0, 1, 9, 12, 15], [], [
    ⟨some 73, .mv (.t 15), none, false⟩,
    ⟨some 74, .len false (.t 73), none, false⟩,
    ⟨some 75, .mv (.t 9), none, false⟩,
    ⟨some 76, .bin .int .neq (.t 74) (.t 75), none, false⟩], []⟩
@[simp] def r42_16 : AReg := ⟨[], [], [
    ⟨some 6, .mv (.c .nils), none, false⟩,
    ⟨some 7, .mv (.c (.dat (.int .i64 0))), none, false⟩], []⟩
@[simp] def r42_17 : AReg := ⟨[0, 1, 9, 12, 15], [], [
    ⟨some 16, .mv (.c (.dat (.int .i64 0))), none, false⟩], []⟩
@[simp] def r42_18 : AReg := ⟨[0, 1, 9, 12, 15, 16], [0, 12, 15], [
    ⟨some 77, .mv (.t 16), none, false⟩,
    ⟨some 78, .mv (.t 9), none, false⟩,
    ⟨some 79, .bin .int .lss (.t 77) (.t 78), none, false⟩], []⟩
@[simp] def r42_19 : AReg := ⟨[0, 1, 9, 12, 15, 16], [], [
    ⟨some 82, .mv (.t 15), none, false⟩,
    ⟨some 83, .mv (.t 16), none, false⟩,
    ⟨some 84, .iAddr 1 (.t 82) (.t 83), none, false⟩,
    ⟨some 85, .ld 1 false (.t 84), none, false⟩,
    ⟨some 86, .mv (.t 0), none, false⟩,
    ⟨some 87, .mv (.t 1), none, false⟩,
    ⟨some 88, .mv (.t 16), none, false⟩,
    ⟨some 89, .bin .int .add (.t 87) (.t 88), none, false⟩,
    ⟨some 90, .iAddr 1 (.t 86) (.t 89), none, false⟩,
    ⟨some 91, .ld 1 false (.t 90), none, false⟩,
    ⟨some 92, .call 14 [((.t 85), false), ((.t 91), false)] true, none, false⟩,
    ⟨some 93, .un .not (.t 92), none, false⟩], []⟩
@[simp] def r42_20 : AReg := ⟨[], [], [
    ⟨some 6, .mv (.c .nils), none, false⟩,
    ⟨some 7, .mv (.c (.dat (.int .i64 0))), none, false⟩], []⟩
@[simp] def r42_21 : AReg := ⟨[0, 1, 9, 12, 15, 16], [], [
    ⟨some 80, .mv (.t 16), none, false⟩,
    ⟨some 81, .bin .int .add (.t 80) (.c (.dat (.int .i64 1))), none, false⟩,
    ⟨some 16, .mv (.t 81), none, false⟩], []⟩
def l42_1 : AC := .seq (.seq (.reg r42_18) (.cond (.t 79) (.skip) (.exit 2))) (.seq (.block 3 (.seq (.reg r42_19) (.cond (.t 93) (.seq (.reg r42_20) (.ret)) (.skip)))) (.reg r42_21))
@[simp] theorem l42_1e (K : Orc) (s : St) : exec K l42_1 s = exec K (.seq (.seq (.reg r42_18) (.cond (.t 79) (.skip) (.exit 2))) (.seq (.block 3 (.seq (.reg r42_19) (.cond (.t 93) (.seq (.reg r42_20) (.ret)) (.skip)))) (.reg r42_21))) s := rfl
@[simp] def r42_22 : AReg := ⟨[9, 12], [], [
    ⟨some 94, .mv (.t 12), none, false⟩,
    ⟨some 95, .mv (.t 9), none, false⟩,
    ⟨some 6, .mv (.t 94), none, false⟩,
    ⟨some 7, .mv (.t 95), none, false⟩], []⟩
@[simp] def fn42 : AFun := ⟨3, [6, 7], false,
  .seq (.reg r42_0) (.seq (.seq (.reg r42_1) (.cond (.t 20) (.seq (.reg r42_2) (.ret)) (.skip))) (.seq (.reg r42_3) (.seq (.seq (.reg r42_4) (.cond (.t 46) (.seq (.reg r42_5) (.ret)) (.skip))) (.seq (.reg r42_6) (.seq (.seq (.reg r42_7) (.block 0 (.loop l42_0))) (.seq (.reg r42_11) (.seq (.seq (.reg r42_12) (.cond (.t 68) (.seq (.reg r42_13) (.ret)) (.skip))) (.seq (.reg r42_14) (.seq (.seq (.reg r42_15) (.cond (.t 76) (.seq (.reg r42_16) (.ret)) (.skip))) (.seq (.seq (.reg r42_17) (.block 2 (.loop l42_1))) (.seq (.reg r42_22) (.ret)))))))))))), none⟩

theorem c42 : cFun Try.prog ann42 false 42 = some fn42 := by kernel_rfl

/-! 43: modelcheck/modelcheckref50.copies -/

def ann43 : Ann := [{ id := 0, live := [0] },
  { id := 1, live := [0], marks := [(0, { md := .o })] },
  { id := 2, live := [0, 3] },
  { id := 3, live := [0, 3, 4], drop := [0, 3] },
  { id := 5, live := [0, 3, 4], marks := [(1, { md := .o }), (6, { md := .o }), (8, { md := .o })] },
  { id := 4, live := [0, 3, 4] },
  { id := 6, live := [3] }]

@[simp] def r43_0 : AReg := ⟨[0], [], [
    ⟨some 2, .mv (.c .nils), none, false⟩], []⟩
@[simp] def r43_1 : AReg := ⟨[0], [], [
    ⟨some 3, .mvNil .o 1, none, false⟩], []⟩
@[simp] def r43_2 : AReg := ⟨[0, 3], [], [
    ⟨some 4, .mv (.c (.dat (.int .i64 0))), none, false⟩], []⟩
@[simp] def r43_3 : AReg := ⟨[0, 3, 4], [0, 3], [
    ⟨some 5, .mv (.t 4), none, false⟩,
    ⟨some 6, .mv (.t 0), none, false⟩,
    ⟨some 7, .len false (.t 6), none, false⟩,
    ⟨some 8, .bin .int .lss (.t 5) (.t 7), none, false⟩], []⟩
@[simp] def r43_4 : AReg := ⟨[0, 3, 4], [], [
    ⟨some 11, .mv (.t 3), none, false⟩,
    ⟨some 12, .bldS .o 1 [], none, false⟩,
    ⟨some 13, .mv (.t 0), none, false⟩,
    ⟨some 14, .mv (.t 4), none, false⟩,
    ⟨some 15, .iAddr 1 (.t 13) (.t 14), none, false⟩,
    ⟨some 16, .ld 1 false (.t 15), none, false⟩,
    ⟨some 17, .app .o 1 1 (.t 12) (.t 16), none, false⟩,
    ⟨some 18, .bldS .d 1 [(.t 17)], none, false⟩,
    ⟨some 19, .app .o 1 24 (.t 11) (.t 18), none, false⟩,
    ⟨some 3, .mv (.t 19), none, false⟩], []⟩
@[simp] def r43_5 : AReg := ⟨[0, 3, 4], [], [
    ⟨some 9, .mv (.t 4), none, false⟩,
    ⟨some 10, .bin .int .add (.t 9) (.c (.dat (.int .i64 1))), none, false⟩,
    ⟨some 4, .mv (.t 10), none, false⟩], []⟩
def l43_0 : AC := .seq (.seq (.reg r43_3) (.cond (.t 8) (.skip) (.exit 0))) (.seq (.block 1 (.reg r43_4)) (.reg r43_5))
@[simp] theorem l43_0e (K : Orc) (s : St) : exec K l43_0 s = exec K (.seq (.seq (.reg r43_3) (.cond (.t 8) (.skip) (.exit 0))) (.seq (.block 1 (.reg r43_4)) (.reg r43_5))) s := rfl
@[simp] def r43_6 : AReg := ⟨[3], [], [
    ⟨some 20, .mv (.t 3), none, false⟩,
    ⟨some 2, .mv (.t 20), none, false⟩], []⟩
@[simp] def fn43 : AFun := ⟨1, [2], false,
  .seq (.reg r43_0) (.seq (.reg r43_1) (.seq (.seq (.reg r43_2) (.block 0 (.loop l43_0))) (.seq (.reg r43_6) (.ret)))), none⟩

theorem c43 : cFun Try.prog ann43 false 43 = some fn43 := by kernel_rfl

/-! 44: modelcheck/modelcheckref50.parts -/

def ann44 : Ann := [{ id := 0, live := [0] },
  { id := 1, live := [0] }]

@[simp] def r44_0 : AReg := ⟨[0], [], [
    ⟨some 2, .mv (.c (.dat (.int .i64 0))), none, false⟩], []⟩
@[simp] def r44_1 : AReg := ⟨[0], [], [
    ⟨some 3, .mv (.t 0), none, false⟩,
    ⟨some 4, .bin .int .add (.t 3) (.c (.dat (.int .i64 52))), none, false⟩,
    ⟨some 5, .bin .int .sub (.t 4) (.c (.dat (.int .i64 1))), none, false⟩,
    ⟨some 6, .bin .int .quo (.t 5) (.c (.dat (.int .i64 52))), none, false⟩,
    ⟨some 2, .mv (.t 6), none, false⟩], []⟩
@[simp] def fn44 : AFun := ⟨1, [2], false,
  .seq (.reg r44_0) (.seq (.reg r44_1) (.ret)), none⟩

theorem c44 : cFun Try.prog ann44 false 44 = some fn44 := by kernel_rfl

/-! 45: modelcheck/modelcheckref06.Seal -/

def ann45 : Ann := [{ id := 0, live := [0] },
  { id := 1, live := [0], marks := [(4, { md := .o })] },
  { id := 2, live := [3], marks := [(4, { md := .o })] }]

@[simp] def r45_0 : AReg := ⟨[0], [], [
    ⟨some 2, .mv (.c .nils), none, false⟩], []⟩
@[simp] def r45_1 : AReg := ⟨[0], [], [
    ⟨some 4, .mv (.t 0), none, false⟩,
    ⟨some 5, .len false (.t 4), none, false⟩,
    ⟨some 6, .call 51 [((.c .nils), false), ((.t 5), false)] false, none, false⟩,
    ⟨some 7, .mv (.t 0), none, false⟩,
    ⟨some 8, .app .o 1 1 (.t 6) (.t 7), none, false⟩,
    ⟨some 3, .mv (.t 8), none, false⟩], []⟩
@[simp] def r45_2 : AReg := ⟨[3], [], [
    ⟨some 9, .mv (.t 3), none, false⟩,
    ⟨some 10, .mv (.t 3), none, false⟩,
    ⟨some 11, .call 53 [((.t 10), false)] true, none, false⟩,
    ⟨some 12, .call 52 [((.t 11), false)] false, none, false⟩,
    ⟨some 13, .app .o 1 1 (.t 9) (.t 12), none, false⟩,
    ⟨some 2, .mv (.t 13), none, false⟩], []⟩
@[simp] def fn45 : AFun := ⟨1, [2], false,
  .seq (.reg r45_0) (.seq (.reg r45_1) (.seq (.reg r45_2) (.ret))), none⟩

theorem c45 : cFun Try.prog ann45 false 45 = some fn45 := by kernel_rfl

/-! 46: modelcheck/modelcheckref50.Image -/

def ann46 : Ann := [{ id := 0, live := [0, 1, 2] },
  { id := 1, live := [0, 1, 2] },
  { id := 2, live := [0, 1, 7] },
  { id := 3, live := [0, 1, 7, 8], marks := [(0, { md := .o })] },
  { id := 4, live := [0, 1, 7, 8, 9] },
  { id := 5, live := [0, 1, 7, 8, 9, 10], drop := [7, 9] },
  { id := 7, live := [0, 1, 7, 8, 9, 10], marks := [(4, { md := .o }), (7, { md := .o }), (10, { md := .o })] },
  { id := 8, live := [0, 1, 7, 8, 9, 10, 11] },
  { id := 9, live := [0, 1, 7, 8, 9, 10, 11, 12], drop := [7, 9, 11] },
  { id := 11, live := [0, 1, 7, 8, 9, 10, 11, 12] },
  { id := 12, live := [0, 1, 7, 8, 9, 10, 11, 12], marks := [(6, { md := .o })] },
  { id := 13, live := [0, 1, 7, 8, 9, 10, 11, 12], marks := [(2, { md := .o })] },
  { id := 10, live := [0, 1, 7, 8, 9, 10, 11, 12] },
  { id := 14, live := [0, 1, 7, 8, 9, 10, 11], marks := [(3, { md := .o })] },
  { id := 6, live := [0, 1, 7, 8, 9, 10] },
  { id := 15, live := [9] }]

@[simp] def r46_0 : AReg := ⟨[0, 1, 2], [], [
    ⟨some 6, .mv (.c .nils), none, false⟩], []⟩
@[simp] def r46_1 : AReg := ⟨[0, 1, 2], [], [
    ⟨some 13, .mv (.t 2), none, false⟩,
    ⟨some 14, .call 45 [((.t 13), false)] false, none, false⟩,
    ⟨some 7, .mv (.t 14), none, false⟩], []⟩
@[simp] def r46_2 : AReg := ⟨[0, 1, 7], [], [
    ⟨some 15, .mv (.t 7), none, false⟩,
    ⟨some 16, .len false (.t 15), none, false⟩,
    ⟨some 17, .call 44 [((.t 16), false)] true, none, false⟩,
    ⟨some 8, .mv (.t 17), none, false⟩], []⟩
@[simp] def r46_3 : AReg := ⟨[0, 1, 7, 8], [], [
    ⟨some 9, .mvNil .o 1, none, false⟩], []⟩
@[simp] def r46_4 : AReg := ⟨[0, 1, 7, 8, 9], [], [
    ⟨some 10, .mv (.c (.dat (.int .i64 0))), none, false⟩], []⟩
@[simp] def r46_5 : AReg := ⟨[0, 1, 7, 8, 9, 10], [7, 9], [
    ⟨some 18, .mv (.t 10), none, false⟩,
    ⟨some 19, .mv (.t 8), none, false⟩,
    ⟨some 20, .bin .int .lss (.t 18) (.t 19), none, false⟩], []⟩
@[simp] def r46_6 : AReg := ⟨[0, 1, 7, 8, 9, 10], [], [
    ⟨some 23, .mv (.t 0), none, false⟩,
    ⟨some 24, .call 54 [((.t 23), false), ((.c (.dat (.int .i64 4))), false)] false, none, false⟩,
    ⟨some 25, .mv (.t 1), none, false⟩,
    ⟨some 26, .call 54 [((.t 25), false), ((.c (.dat (.int .i64 4))), false)] false, none, false⟩,
    ⟨some 27, .app .o 1 1 (.t 24) (.t 26), none, false⟩,
    ⟨some 28, .mv (.t 10), none, false⟩,
    ⟨some 29, .call 54 [((.t 28), false), ((.c (.dat (.int .i64 2))), false)] false, none, false⟩,
    ⟨some 30, .app .o 1 1 (.t 27) (.t 29), none, false⟩,
    ⟨some 31, .mv (.t 8), none, false⟩,
    ⟨some 32, .call 54 [((.t 31), false), ((.c (.dat (.int .i64 2))), false)] false, none, false⟩,
    ⟨some 33, .app .o 1 1 (.t 30) (.t 32), none, false⟩,
    ⟨some 11, .mv (.t 33), none, false⟩], []⟩
@[simp] def r46_7 : AReg := ⟨[0, 1, 7, 8, 9, 10, 11], [], [
    ⟨some 34, .mv (.t 10), none, false⟩,
    ⟨some 35, .bin .int .mul (.t 34) (.c (.dat (.int .i64 52))), none, false⟩,
    ⟨some 12, .mv (.t 35), none, false⟩], []⟩
@[simp] def r46_8 : AReg := ⟨[0, 1, 7, 8, 9, 10, 11, 12], [7, 9, 11], [
    ⟨some 36, .mv (.t 12), none, false⟩,
    ⟨some 37, .mv (.t 10), none, false⟩,
    ⟨some 38, .bin .int .add (.t 37) (.c (.dat (.int .i64 1))), none, false⟩,
    ⟨some 39, .bin .int .mul (.t 38) (.c (.dat (.int .i64 52))), none, false⟩,
    ⟨some 40, .bin .int .lss (.t 36) (.t 39), none, false⟩], []⟩
@[simp] def r46_9 : AReg := ⟨[0, 1, 7, 8, 9, 10, 11, 12], [], [
    ⟨some 43, .mv (.t 12), none, false⟩,
    ⟨some 44, .mv (.t 7), none, false⟩,
    ⟨some 45, .len false (.t 44), none, false⟩,
    ⟨some 46, .bin .int .lss (.t 43) (.t 45), none, false⟩], []⟩
@[simp] def r46_10 : AReg := ⟨[0, 1, 7, 8, 9, 10, 11, 12], [], [
    ⟨some 47, .mv (.t 11), none, false⟩,
    ⟨some 48, .mv (.t 7), none, false⟩,
    ⟨some 49, .mv (.t 12), none, false⟩,
    ⟨some 50, .iAddr 1 (.t 48) (.t 49), none, false⟩,
    ⟨some 51, .ld 1 false (.t 50), none, false⟩,
    ⟨some 52, .bldS .d 1 [(.t 51)], none, false⟩,
    ⟨some 53, .app .o 1 1 (.t 47) (.t 52), none, false⟩,
    ⟨some 11, .mv (.t 53), none, false⟩], []⟩
@[simp] def r46_11 : AReg := ⟨[0, 1, 7, 8, 9, 10, 11, 12], [], [
    ⟨some 54, .mv (.t 11), none, false⟩,
    ⟨some 55, .bldS .d 1 [(.c (.dat (.int .u8 0)))], none, false⟩,
    ⟨some 56, .app .o 1 1 (.t 54) (.t 55), none, false⟩,
    ⟨some 11, .mv (.t 56), none, false⟩], []⟩
@[simp] def r46_12 : AReg := ⟨[0, 1, 7, 8, 9, 10, 11, 12], [], [
    ⟨some 41, .mv (.t 12), none, false⟩,
    ⟨some 42, .bin .int .add (.t 41) (.c (.dat (.int .i64 1))), none, false⟩,
    ⟨some 12, .mv (.t 42), none, false⟩], []⟩
def l46_0 : AC := .seq (.seq (.reg r46_8) (.cond (.t 40) (.skip) (.exit 2))) (.seq (.block 3 (.seq (.reg r46_9) (.cond (.t 46) (.reg r46_10) (.reg r46_11)))) (.reg r46_12))
@[simp] theorem l46_0e (K : Orc) (s : St) : exec K l46_0 s = exec K (.seq (.seq (.reg r46_8) (.cond (.t 40) (.skip) (.exit 2))) (.seq (.block 3 (.seq (.reg r46_9) (.cond (.t 46) (.reg r46_10) (.reg r46_11)))) (.reg r46_12))) s := rfl
@[simp] def r46_13 : AReg := ⟨[0, 1, 7, 8, 9, 10, 11], [], [
    ⟨some 57, .mv (.t 9), none, false⟩,
    ⟨some 58, .mv (.t 11), none, false⟩,
    ⟨some 59, .bldS .d 1 [(.t 58)], none, false⟩,
    ⟨some 60, .app .o 1 24 (.t 57) (.t 59), none, false⟩,
    ⟨some 9, .mv (.t 60), none, false⟩], []⟩
@[simp] def r46_14 : AReg := ⟨[0, 1, 7, 8, 9, 10], [], [
    ⟨some 21, .mv (.t 10), none, false⟩,
    ⟨some 22, .bin .int .add (.t 21) (.c (.dat (.int .i64 1))), none, false⟩,
    ⟨some 10, .mv (.t 22), none, false⟩], []⟩
def l46_1 : AC := .seq (.seq (.reg r46_5) (.cond (.t 20) (.skip) (.exit 0))) (.seq (.block 1 (.seq (.reg r46_6) (.seq (.seq (.reg r46_7) (.block 2 (.loop l46_0))) (.reg r46_13)))) (.reg r46_14))
@[simp] theorem l46_1e (K : Orc) (s : St) : exec K l46_1 s = exec K (.seq (.seq (.reg r46_5) (.cond (.t 20) (.skip) (.exit 0))) (.seq (.block 1 (.seq (.reg r46_6) (.seq (.seq (.reg r46_7) (.block 2 (.loop l46_0))) (.reg r46_13)))) (.reg r46_14))) s := rfl
@[simp] def r46_15 : AReg := ⟨[9], [], [
    ⟨some 61, .mv (.t 9), none, false⟩,
    ⟨some 6, .mv (.t 61), none, false⟩], []⟩
@[simp] def fn46 : AFun := ⟨3, [6], false,
  .seq (.reg r46_0) (.seq (.reg r46_1) (.seq (.reg r46_2) (.seq (.reg r46_3) (.seq (.seq (.reg r46_4) (.block 0 (.loop l46_1))) (.seq (.reg r46_15) (.ret)))))), none⟩

theorem c46 : cFun Try.prog ann46 false 46 = some fn46 := by kernel_rfl

/-! 47: modelcheck/frame.Open -/

def ann47 : Ann := [{ id := 0, live := [0] },
  { id := 1, live := [0] },
  { id := 2, live := [0, 5, 6, 7] },
  { id := 3, live := [7] },
  { id := 4, live := [0, 5, 6] },
  { id := 5, live := [] },
  { id := 6, live := [0, 5, 6] },
  { id := 7, live := [0, 6, 8] },
  { id := 8, live := [0, 6, 8, 41, 42, 43], drop := [0, 41] },
  { id := 9, live := [0, 6, 8, 41, 42, 43] },
  { id := 10, live := [0, 6, 8, 9, 10, 41, 42, 43] },
  { id := 11, live := [] },
  { id := 12, live := [0, 6, 8, 41, 42, 43] },
  { id := 13, live := [0, 6, 8] }]

@[simp] def r47_0 : AReg := ⟨[0], [], [
    ⟨some 2, .mv (.c .nils), none, false⟩,
    ⟨some 3, .mv (.c .nils), none, false⟩,
    ⟨some 4, .mv (.c (.dat (.int .i64 0))), none, false⟩], []⟩
@[simp] def r47_1 : AReg := ⟨[0], [], [
    ⟨some 12, .mv (.t 0), none, false⟩,
    ⟨some 13, .call 55 [((.t 12), false)] true, none, false⟩,
    ⟨some 11, .mv (.t 13), none, false⟩,
    ⟨some 14, .ext 0 (.t 11), none, false⟩,
    ⟨some 15, .ext 1 (.t 11), none, false⟩,
    ⟨some 16, .ext 2 (.t 11), none, false⟩,
    ⟨some 5, .mv (.t 14), none, false⟩,
    ⟨some 6, .mv (.t 15), none, false⟩,
    ⟨some 7, .mv (.t 16), none, false⟩], []⟩
@[simp] def r47_2 : AReg := ⟨[0, 5, 6, 7], [], [
    ⟨some 17, .mv (.t 7), none, false⟩,
    ⟨some 18, .bin .int .neq (.t 17) (.c (.dat (.int .i64 0))), none, false⟩], []⟩
@[simp] def r47_3 : AReg := ⟨[7], [], [
    ⟨some 19, .mv (.t 7), none, false⟩,
    ⟨some 2, .mv (.c .nils), none, false⟩,
    ⟨some 3, .mv (.c .nils), none, false⟩,
    ⟨some 4, .mv (.t 19), none, false⟩], []⟩
@[simp] def r47_4 : AReg := ⟨[0, 5, 6], [], [
    ⟨some 20, .mv (.t 0), none, false⟩,
    ⟨some 21, .len false (.t 20), none, false⟩,
    ⟨some 22, .mv (.t 6), none, false⟩,
    ⟨some 23, .bin .int .sub (.t 21) (.t 22), none, false⟩,
    ⟨some 24, .bin .int .lss (.t 23) (.c (.dat (.int .i64 4))), none, false⟩,
    ⟨some 25, .mv (.t 24), none, false⟩,
    ⟨some 26, .mv (.t 5), some (25, false), false⟩,
    ⟨some 27, .mv (.t 0), some (25, false), false⟩,
    ⟨some 28, .len false (.t 27), some (25, false), false⟩,
    ⟨some 29, .mv (.t 6), some (25, false), false⟩,
    ⟨some 30, .bin .int .sub (.t 28) (.t 29), some (25, false), false⟩,
    ⟨some 31, .bin .int .sub (.t 30) (.c (.dat (.int .i64 4))), some (25, false), false⟩,
    ⟨some 32, .bin .int .gtr (.t 26) (.t 31), some (25, false), false⟩,
    ⟨some 33, .pick (.t 25) (.c (.dat (.bool true))) (.t 32), none, false⟩], []⟩
@[simp] def r47_5 : AReg := ⟨[], [], [
    ⟨some 2, .mv (.c .nils), none, false⟩,
    ⟨some 3, .mv (.c .nils), none, false⟩,
    ⟨some 4, .mv (.c (.dat (.int .i64 22))), none, false⟩], []⟩
@[simp] def r47_6 : AReg := ⟨[0, 5, 6], [], [
    ⟨some 34, .mv (.t 6), none, false⟩,
    ⟨some 35, .mv (.t 5), none, false⟩,
    ⟨some 36, .bin .int .add (.t 34) (.t 35), none, false⟩,
    ⟨some 8, .mv (.t 36), none, false⟩], []⟩
@[simp] def r47_7 : AReg := ⟨[0, 6, 8], [], [
    ⟨some 37, .mv (.t 0), none, false⟩,
    ⟨some 38, .mv (.t 8), none, false⟩,
    ⟨some 39, .slc false 1 (.t 37) none (some (.t 38)), none, false⟩,
    ⟨some 40, .call 57 [((.t 39), false)] true, none, false⟩,
    ⟨some 41, .call 56 [((.t 40), false)] false, none, false⟩,
    ⟨some 42, .len false (.t 41), none, false⟩,
    ⟨some 43, .mv (.c (.dat (.int .i64 0))), none, false⟩], []⟩
@[simp] def r47_8 : AReg := ⟨[0, 6, 8, 41, 42, 43], [0, 41], [
    ⟨some 44, .bin .int .lss (.t 43) (.t 42), none, false⟩], []⟩
@[simp] def r47_9 : AReg := ⟨[0, 6, 8, 41, 42, 43], [], [
    ⟨some 45, .mv (.t 43), none, false⟩,
    ⟨some 46, .iAddr 1 (.t 41) (.t 43), none, false⟩,
    ⟨some 47, .ld 1 false (.t 46), none, false⟩,
    ⟨some 9, .mv (.t 45), none, false⟩,
    ⟨some 10, .mv (.t 47), none, false⟩], []⟩
@[simp] def r47_10 : AReg := ⟨[0, 6, 8, 9, 10, 41, 42, 43], [], [
    ⟨some 48, .mv (.t 0), none, false⟩,
    ⟨some 49, .mv (.t 8), none, false⟩,
    ⟨some 50, .mv (.t 9), none, false⟩,
    ⟨some 51, .bin .int .add (.t 49) (.t 50), none, false⟩,
    ⟨some 52, .iAddr 1 (.t 48) (.t 51), none, false⟩,
    ⟨some 53, .ld 1 false (.t 52), none, false⟩,
    ⟨some 54, .mv (.t 10), none, false⟩,
    ⟨some 55, .bin .int .neq (.t 53) (.t 54), none, false⟩], []⟩
@[simp] def r47_11 : AReg := ⟨[], [], [
    ⟨some 2, .mv (.c .nils), none, false⟩,
    ⟨some 3, .mv (.c .nils), none, false⟩,
    ⟨some 4, .mv (.c (.dat (.int .i64 21))), none, false⟩], []⟩
@[simp] def r47_12 : AReg := ⟨[0, 6, 8, 41, 42, 43], [], [
    ⟨some 56, .bin .int .add (.t 43) (.c (.dat (.int .i64 1))), none, false⟩,
    ⟨some 43, .mv (.t 56), none, false⟩], []⟩
def l47_0 : AC := .seq (.reg r47_8) (.seq (.cond (.t 44) (.skip) (.exit 0)) (.seq (.block 1 (.seq (.reg r47_9) (.seq (.reg r47_10) (.cond (.t 55) (.seq (.reg r47_11) (.ret)) (.skip))))) (.reg r47_12)))
@[simp] theorem l47_0e (K : Orc) (s : St) : exec K l47_0 s = exec K (.seq (.reg r47_8) (.seq (.cond (.t 44) (.skip) (.exit 0)) (.seq (.block 1 (.seq (.reg r47_9) (.seq (.reg r47_10) (.cond (.t 55) (.seq (.reg r47_11) (.ret)) (.skip))))) (.reg r47_12)))) s := rfl
@[simp] def r47_13 : AReg := ⟨[0, 6, 8], [], [
    ⟨some 57, .mv (.t 0), none, false⟩,
    ⟨some 58, .mv (.t 6), none, false⟩,
    ⟨some 59, .mv (.t 8), none, false⟩,
    ⟨some 60, .slc false 1 (.t 57) (some (.t 58)) (some (.t 59)), none, false⟩,
    ⟨some 61, .bldS .d 1 [(.t 60)], none, true⟩,
    ⟨some 62, .call 58 [((.t 61), false)] false, none, true⟩,
    ⟨some 63, .mv (.t 0), none, false⟩,
    ⟨some 64, .mv (.t 8), none, false⟩,
    ⟨some 65, .bin .int .add (.t 64) (.c (.dat (.int .i64 4))), none, false⟩,
    ⟨some 66, .slc false 1 (.t 63) (some (.t 65)) none, none, false⟩,
    ⟨some 67, .bldS .d 1 [(.t 66)], none, true⟩,
    ⟨some 68, .call 58 [((.t 67), false)] false, none, false⟩,
    ⟨some 2, .mv (.t 62), none, false⟩,
    ⟨some 3, .mv (.t 68), none, false⟩,
    ⟨some 4, .mv (.c (.dat (.int .i64 0))), none, false⟩], [(4, 10), (5, 10)]⟩
@[simp] def fn47 : AFun := ⟨1, [2, 3, 4], false,
  .seq (.reg r47_0) (.seq (.reg r47_1) (.seq (.seq (.reg r47_2) (.cond (.t 18) (.seq (.reg r47_3) (.ret)) (.skip))) (.seq (.seq (.reg r47_4) (.cond (.t 33) (.seq (.reg r47_5) (.ret)) (.skip))) (.seq (.reg r47_6) (.seq (.seq (.reg r47_7) (.block 0 (.loop l47_0))) (.seq (.reg r47_13) (.ret))))))), none⟩

theorem c47 : cFun Try.prog ann47 false 47 = some fn47 := by kernel_rfl

/-! 48: bytes.Equal -/

def ann48 : Ann := [{ id := 0, live := [0, 1] },
  { id := 1, live := [0, 1] }]

@[simp] def r48_0 : AReg := ⟨[0, 1], [], [
    ⟨some 4, .mv (.c (.dat (.bool false))), none, false⟩], []⟩
@[simp] def r48_1 : AReg := ⟨[0, 1], [], [
    ⟨some 5, .mv (.t 0), none, false⟩,
    ⟨some 6, .b2s (.t 5), none, false⟩,
    ⟨some 7, .mv (.t 1), none, false⟩,
    ⟨some 8, .b2s (.t 7), none, false⟩,
    ⟨some 9, .bin .str .eql (.t 6) (.t 8), none, false⟩,
    ⟨some 4, .mv (.t 9), none, false⟩], []⟩
@[simp] def fn48 : AFun := ⟨2, [4], false,
  .seq (.reg r48_0) (.seq (.reg r48_1) (.ret)), none⟩

theorem c48 : cFun Try.prog ann48 false 48 = some fn48 := by kernel_rfl

/-! 49: modelcheck/frame.Seal -/

def ann49 : Ann := [{ id := 0, live := [0] },
  { id := 1, live := [0] },
  { id := 2, live := [3] }]

@[simp] def r49_0 : AReg := ⟨[0], [], [
    ⟨some 2, .mv (.c .nils), none, false⟩], []⟩
@[simp] def r49_1 : AReg := ⟨[0], [], [
    ⟨some 4, .mv (.t 0), none, false⟩,
    ⟨some 5, .len false (.t 4), none, false⟩,
    ⟨some 6, .call 59 [((.t 5), false)] false, none, false⟩,
    ⟨some 7, .mv (.t 0), none, false⟩,
    ⟨some 8, .bldS .d 1 [(.t 6), (.t 7)], none, false⟩,
    ⟨some 9, .call 58 [((.t 8), false)] false, none, false⟩,
    ⟨some 3, .mv (.t 9), none, false⟩], []⟩
@[simp] def r49_2 : AReg := ⟨[3], [], [
    ⟨some 10, .mv (.t 3), none, false⟩,
    ⟨some 11, .mv (.t 3), none, false⟩,
    ⟨some 12, .call 57 [((.t 11), false)] true, none, false⟩,
    ⟨some 13, .call 56 [((.t 12), false)] false, none, false⟩,
    ⟨some 14, .bldS .d 1 [(.t 10), (.t 13)], none, false⟩,
    ⟨some 15, .call 58 [((.t 14), false)] false, none, false⟩,
    ⟨some 2, .mv (.t 15), none, false⟩], []⟩
@[simp] def fn49 : AFun := ⟨1, [2], false,
  .seq (.reg r49_0) (.seq (.reg r49_1) (.seq (.reg r49_2) (.ret))), none⟩

theorem c49 : cFun Try.prog ann49 false 49 = some fn49 := by kernel_rfl

/-! 50: modelcheck/modelcheckref06.Open -/

def ann50 : Ann := [{ id := 0, live := [0] },
  { id := 1, live := [0] },
  { id := 2, live := [0, 5, 6, 7] },
  { id := 3, live := [7] },
  { id := 4, live := [0, 5, 6] },
  { id := 5, live := [] },
  { id := 6, live := [0, 5, 6] },
  { id := 7, live := [0, 5, 6, 8] },
  { id := 8, live := [] },
  { id := 9, live := [5, 6], marks := [(0, { md := .o }), (4, { md := .o }), (5, { md := .o }), (10, { md := .o })] }]

@[simp] def r50_0 : AReg := ⟨[0], [], [
    ⟨some 2, .mv (.c .nils), none, false⟩,
    ⟨some 3, .mv (.c .nils), none, false⟩,
    ⟨some 4, .mv (.c (.dat (.int .i64 0))), none, false⟩], []⟩
@[simp] def r50_1 : AReg := ⟨[0], [], [
    ⟨some 10, .mv (.t 0), none, false⟩,
    ⟨some 11, .call 60 [((.t 10), false)] false, none, false⟩,
    ⟨some 9, .mv (.t 11), none, false⟩,
    ⟨some 12, .ext 0 (.t 9), none, false⟩,
    ⟨some 13, .ext 1 (.t 9), none, false⟩,
    ⟨some 14, .ext 2 (.t 9), none, false⟩,
    ⟨some 5, .mv (.t 12), none, false⟩,
    ⟨some 6, .mv (.t 13), none, false⟩,
    ⟨some 7, .mv (.t 14), none, false⟩], []⟩
@[simp] def r50_2 : AReg := ⟨[0, 5, 6, 7], [], [
    ⟨some 15, .mv (.t 7), none, false⟩,
    ⟨some 16, .bin .int .neq (.t 15) (.c (.dat (.int .i64 0))), none, false⟩], []⟩
@[simp] def r50_3 : AReg := ⟨[7], [], [
    ⟨some 17, .mv (.t 7), none, false⟩,
    ⟨some 2, .mv (.c .nils), none, false⟩,
    ⟨some 3, .mv (.c .nils), none, false⟩,
    ⟨some 4, .mv (.t 17), none, false⟩], []⟩
@[simp] def r50_4 : AReg := ⟨[0, 5, 6], [], [
    ⟨some 18, .mv (.t 6), none, false⟩,
    ⟨some 19, .len false (.t 18), none, false⟩,
    ⟨some 20, .bin .int .lss (.t 19) (.c (.dat (.int .i64 4))), none, false⟩,
    ⟨some 21, .mv (.t 20), none, false⟩,
    ⟨some 22, .mv (.t 5), some (21, false), false⟩,
    ⟨some 23, .mv (.t 6), some (21, false), false⟩,
    ⟨some 24, .len false (.t 23), some (21, false), false⟩,
    ⟨some 25, .bin .int .sub (.t 24) (.c (.dat (.int .i64 4))), some (21, false), false⟩,
    ⟨some 26, .bin .int .gtr (.t 22) (.t 25), some (21, false), false⟩,
    ⟨some 27, .pick (.t 21) (.c (.dat (.bool true))) (.t 26), none, false⟩], []⟩
@[simp] def r50_5 : AReg := ⟨[], [], [
    ⟨some 2, .mv (.c .nils), none, false⟩,
    ⟨some 3, .mv (.c .nils), none, false⟩,
    ⟨some 4, .mv (.c (.dat (.int .i64 22))), none, false⟩], []⟩
@[simp] def r50_6 : AReg := ⟨[0, 5, 6], [], [
    ⟨some 28, .mv (.t 0), none, false⟩,
    ⟨some 29, .len false (.t 28), none, false⟩,
    ⟨some 30, .mv (.t 6), none, false⟩,
    ⟨some 31, .len false (.t 30), none, false⟩,
    ⟨some 32, .bin .int .sub (.t 29) (.t 31), none, false⟩,
    ⟨some 33, .mv (.t 5), none, false⟩,
    ⟨some 34, .bin .int .add (.t 32) (.t 33), none, false⟩,
    ⟨some 8, .mv (.t 34), none, false⟩], []⟩
@[simp] def r50_7 : AReg := ⟨[0, 5, 6, 8], [], [
    ⟨some 35, .mv (.t 0), none, false⟩,
    ⟨some 36, .mv (.t 8), none, false⟩,
    ⟨some 37, .mv (.t 8), none, false⟩,
    ⟨some 38, .bin .int .add (.t 37) (.c (.dat (.int .i64 4))), none, false⟩,
    ⟨some 39, .slc false 1 (.t 35) (some (.t 36)) (some (.t 38)), none, false⟩,
    ⟨some 40, .mv (.t 0), none, false⟩,
    ⟨some 41, .mv (.t 8), none, false⟩,
    ⟨some 42, .slc false 1 (.t 40) none (some (.t 41)), none, false⟩,
    ⟨some 43, .call 53 [((.t 42), false)] true, none, false⟩,
    ⟨some 44, .call 52 [((.t 43), false)] false, none, false⟩,
    ⟨some 45, .call 14 [((.t 39), false), ((.t 44), false)] true, none, false⟩,
    ⟨some 46, .un .not (.t 45), none, false⟩], []⟩
@[simp] def r50_8 : AReg := ⟨[], [], [
    ⟨some 2, .mv (.c .nils), none, false⟩,
    ⟨some 3, .mv (.c .nils), none, false⟩,
    ⟨some 4, .mv (.c (.dat (.int .i64 21))), none, false⟩], []⟩
@[simp] def r50_9 : AReg := ⟨[5, 6], [], [
    ⟨some 47, .bldS .o 1 [], none, true⟩,
    ⟨some 48, .mv (.t 6), none, false⟩,
    ⟨some 49, .mv (.t 5), none, false⟩,
    ⟨some 50, .slc false 1 (.t 48) none (some (.t 49)), none, false⟩,
    ⟨some 51, .app .o 1 1 (.t 47) (.t 50), none, true⟩,
    ⟨some 52, .bldS .o 1 [], none, true⟩,
    ⟨some 53, .mv (.t 6), none, false⟩,
    ⟨some 54, .mv (.t 5), none, false⟩,
    ⟨some 55, .bin .int .add (.t 54) (.c (.dat (.int .i64 4))), none, false⟩,
    ⟨some 56, .slc false 1 (.t 53) (some (.t 55)) none, none, false⟩,
    ⟨some 57, .app .o 1 1 (.t 52) (.t 56), none, false⟩,
    ⟨some 2, .mv (.t 51), none, false⟩,
    ⟨some 3, .mv (.t 57), none, false⟩,
    ⟨some 4, .mv (.c (.dat (.int .i64 0))), none, false⟩], [(0, 5), (4, 5)]⟩
@[simp] def fn50 : AFun := ⟨1, [2, 3, 4], false,
  .seq (.reg r50_0) (.seq (.reg r50_1) (.seq (.seq (.reg r50_2) (.cond (.t 16) (.seq (.reg r50_3) (.ret)) (.skip))) (.seq (.seq (.reg r50_4) (.cond (.t 27) (.seq (.reg r50_5) (.ret)) (.skip))) (.seq (.reg r50_6) (.seq (.seq (.reg r50_7) (.cond (.t 46) (.seq (.reg r50_8) (.ret)) (.skip))) (.seq (.reg r50_9) (.ret))))))), none⟩

theorem c50 : cFun Try.prog ann50 false 50 = some fn50 := by kernel_rfl

/-! 51: modelcheck/modelcheckref06.AppendUint -/

def ann51 : Ann := [{ id := 0, live := [0, 1] },
  { id := 1, live := [0, 1], marks := [(0, { md := .o }), (2, { md := .o })] },
  { id := 2, live := [1, 5] },
  { id := 3, live := [5] },
  { id := 4, live := [1, 5], drop := [5] },
  { id := 5, live := [1, 5], marks := [(6, { md := .o })] },
  { id := 6, live := [1, 5] },
  { id := 7, live := [1, 5], marks := [(4, { md := .o })] }]

@[simp] def r51_0 : AReg := ⟨[0, 1], [], [
    ⟨some 4, .mv (.c .nils), none, false⟩], []⟩
@[simp] def r51_1 : AReg := ⟨[0, 1], [], [
    ⟨some 6, .bldS .o 1 [], none, false⟩,
    ⟨some 7, .mv (.t 0), none, false⟩,
    ⟨some 8, .app .o 1 1 (.t 6) (.t 7), none, false⟩,
    ⟨some 5, .mv (.t 8), none, false⟩], []⟩
@[simp] def r51_2 : AReg := ⟨[1, 5], [], [
    ⟨some 9, .mv (.t 1), none, false⟩,
    ⟨some 10, .bin .int .lss (.t 9) (.c (.dat (.int .i64 0))), none, false⟩,
    ⟨some 11, .mv (.t 10), none, false⟩,
    ⟨some 12, .mv (.t 1), some (11, false), false⟩,
    ⟨some 13, .bin .int .gtr (.t 12) (.c (.dat (.int .i64 4611686018427387904))), some (11, false), false⟩,
    ⟨some 14, .pick (.t 11) (.c (.dat (.bool true))) (.t 13), none, false⟩], []⟩
@[simp] def r51_3 : AReg := ⟨[5], [], [
    ⟨some 15, .mv (.t 5), none, false⟩,
    ⟨some 4, .mv (.t 15), none, false⟩], []⟩
@[simp] def r51_4 : AReg := ⟨[1, 5], [5], [
    ⟨some 16, .mv (.t 1), none, false⟩,
    ⟨some 17, .bin .int .geq (.t 16) (.c (.dat (.int .i64 128))), none, false⟩], []⟩
@[simp] def r51_5 : AReg := ⟨[1, 5], [], [
    ⟨some 18, .mv (.t 5), none, false⟩,
    ⟨some 19, .mv (.t 1), none, false⟩,
    ⟨some 20, .bin .int .rem (.t 19) (.c (.dat (.int .i64 128))), none, false⟩,
    ⟨some 21, .bin .int .add (.t 20) (.c (.dat (.int .i64 128))), none, false⟩,
    ⟨some 22, .cvt .u8 (.t 21), none, false⟩,
    ⟨some 23, .bldS .d 1 [(.t 22)], none, false⟩,
    ⟨some 24, .app .o 1 1 (.t 18) (.t 23), none, false⟩,
    ⟨some 5, .mv (.t 24), none, false⟩], []⟩
@[simp] def r51_6 : AReg := ⟨[1, 5], [], [
    ⟨some 25, .mv (.t 1), none, false⟩,
    ⟨some 26, .bin .int .quo (.t 25) (.c (.dat (.int .i64 128))), none, false⟩,
    ⟨some 1, .mv (.t 26), none, false⟩], []⟩
def l51_0 : AC := .seq (.seq (.reg r51_4) (.cond (.t 17) (.skip) (.exit 0))) (.block 1 (.seq (.reg r51_5) (.reg r51_6)))
@[simp] theorem l51_0e (K : Orc) (s : St) : exec K l51_0 s = exec K (.seq (.seq (.reg r51_4) (.cond (.t 17) (.skip) (.exit 0))) (.block 1 (.seq (.reg r51_5) (.reg r51_6)))) s := rfl
@[simp] def r51_7 : AReg := ⟨[1, 5], [], [
    ⟨some 27, .mv (.t 5), none, false⟩,
    ⟨some 28, .mv (.t 1), none, false⟩,
    ⟨some 29, .cvt .u8 (.t 28), none, false⟩,
    ⟨some 30, .bldS .d 1 [(.t 29)], none, false⟩,
    ⟨some 31, .app .o 1 1 (.t 27) (.t 30), none, false⟩,
    ⟨some 4, .mv (.t 31), none, false⟩], []⟩
@[simp] def fn51 : AFun := ⟨2, [4], true,
  .seq (.reg r51_0) (.seq (.reg r51_1) (.seq (.seq (.reg r51_2) (.cond (.t 14) (.seq (.reg r51_3) (.ret)) (.skip))) (.seq (.block 0 (.loop l51_0)) (.seq (.reg r51_7) (.ret))))), none⟩

theorem c51 : cFun Try.prog ann51 true 51 = some fn51 := by kernel_rfl

/-! 52: modelcheck/modelcheckref06.sum -/

def ann52 : Ann := [{ id := 0, live := [0] },
  { id := 1, live := [0] }]

@[simp] def r52_0 : AReg := ⟨[0], [], [
    ⟨some 2, .mv (.c .nils), none, false⟩], []⟩
@[simp] def r52_1 : AReg := ⟨[0], [], [
    ⟨some 3, .mv (.t 0), none, false⟩,
    ⟨some 4, .cvt .u8 (.t 3), none, false⟩,
    ⟨some 5, .mv (.t 0), none, false⟩,
    ⟨some 6, .bin .int .quo (.t 5) (.c (.dat (.int .u32 256))), none, false⟩,
    ⟨some 7, .cvt .u8 (.t 6), none, false⟩,
    ⟨some 8, .mv (.t 0), none, false⟩,
    ⟨some 9, .bin .int .quo (.t 8) (.c (.dat (.int .u32 65536))), none, false⟩,
    ⟨some 10, .cvt .u8 (.t 9), none, false⟩,
    ⟨some 11, .mv (.t 0), none, false⟩,
    ⟨some 12, .bin .int .quo (.t 11) (.c (.dat (.int .u32 16777216))), none, false⟩,
    ⟨some 13, .cvt .u8 (.t 12), none, false⟩,
    ⟨some 14, .bldS .d 1 [(.t 4), (.t 7), (.t 10), (.t 13)], none, false⟩,
    ⟨some 2, .mv (.t 14), none, false⟩], []⟩
@[simp] def fn52 : AFun := ⟨1, [2], false,
  .seq (.reg r52_0) (.seq (.reg r52_1) (.ret)), none⟩

theorem c52 : cFun Try.prog ann52 false 52 = some fn52 := by kernel_rfl

/-! 53: modelcheck/modelcheckref06.Checksum -/

def ann53 : Ann := [{ id := 0, live := [0] },
  { id := 1, live := [0] },
  { id := 2, live := [0, 3] },
  { id := 3, live := [0, 3, 4] },
  { id := 5, live := [0, 3, 4] },
  { id := 6, live := [0, 3, 4] },
  { id := 7, live := [0, 3, 4, 5] },
  { id := 9, live := [0, 3, 4, 5] },
  { id := 10, live := [0, 3, 4, 5, 6] },
  { id := 11, live := [0, 3, 4, 5, 6] },
  { id := 12, live := [0, 3, 4, 5] },
  { id := 8, live := [0, 3, 4, 5] },
  { id := 4, live := [0, 3, 4] },
  { id := 13, live := [3] }]

@[simp] def r53_0 : AReg := ⟨[0], [], [
    ⟨some 2, .mv (.c (.dat (.int .u32 0))), none, false⟩], []⟩
@[simp] def r53_1 : AReg := ⟨[0], [], [
    ⟨some 3, .mv (.c (.dat (.int .u32 4294967295))), none, false⟩], []⟩
@[simp] def r53_2 : AReg := ⟨[0, 3], [], [
    ⟨some 4, .mv (.c (.dat (.int .i64 0))), none, false⟩], []⟩
@[simp] def r53_3 : AReg := ⟨[0, 3, 4], [], [
    ⟨some 7, .mv (.t 4), none, false⟩,
    ⟨some 8, .mv (.t 0), none, false⟩,
    ⟨some 9, .len false (.t 8), none, false⟩,
    ⟨some 10, .bin .int .lss (.t 7) (.t 9), none, false⟩], []⟩
@[simp] def r53_4 : AReg := ⟨[0, 3, 4], [], [
    ⟨some 13, .mv (.t 3), none, false⟩,
    ⟨some 14, .mv (.t 0), none, false⟩,
    ⟨some 15, .mv (.t 4), none, false⟩,
    ⟨some 16, .iAddr 1 (.t 14) (.t 15), none, false⟩,
    ⟨some 17, .ld 1 false (.t 16), none, false⟩,
    ⟨some 18, .cvt .u32 (.t 17), none, false⟩,
    ⟨some 19, .bin .int .xor (.t 13) (.t 18), none, false⟩,
    ⟨some 3, .mv (.t 19), none, false⟩], []⟩
@[simp] def r53_5 : AReg := ⟨[0, 3, 4], [], [
    ⟨some 5, .mv (.c (.dat (.int .i64 0))), none, false⟩], []⟩
@[simp] def r53_6 : AReg := ⟨[0, 3, 4, 5], [], [
    ⟨some 20, .mv (.t 5), none, false⟩,
    ⟨some 21, .bin .int .lss (.t 20) (.c (.dat (.int .i64 8))), none, false⟩], []⟩
@[simp] def r53_7 : AReg := ⟨[0, 3, 4, 5], [], [
    ⟨some 24, .mv (.t 3), none, false⟩,
    ⟨some 25, .bin .int .rem (.t 24) (.c (.dat (.int .u32 2))), none, false⟩,
    ⟨some 26, .bin .int .eql (.t 25) (.c (.dat (.int .u32 1))), none, false⟩,
    ⟨some 6, .mv (.t 26), none, false⟩], []⟩
@[simp] def r53_8 : AReg := ⟨[0, 3, 4, 5, 6], [], [
    ⟨some 27, .mv (.t 3), none, false⟩,
    ⟨some 28, .bin .int .quo (.t 27) (.c (.dat (.int .u32 2))), none, false⟩,
    ⟨some 3, .mv (.t 28), none, false⟩], []⟩
@[simp] def r53_9 : AReg := ⟨[0, 3, 4, 5, 6], [], [
    ⟨some 29, .mv (.t 6), none, false⟩], []⟩
@[simp] def r53_10 : AReg := ⟨[0, 3, 4, 5], [], [
    ⟨some 30, .mv (.t 3), none, false⟩,
    ⟨some 31, .bin .int .xor (.t 30) (.c (.dat (.int .u32 3988292384))), none, false⟩,
    ⟨some 3, .mv (.t 31), none, false⟩], []⟩
@[simp] def r53_11 : AReg := ⟨[0, 3, 4, 5], [], [
    ⟨some 22, .mv (.t 5), none, false⟩,
    ⟨some 23, .bin .int .add (.t 22) (.c (.dat (.int .i64 1))), none, false⟩,
    ⟨some 5, .mv (.t 23), none, false⟩], []⟩
def l53_0 : AC := .seq (.seq (.reg r53_6) (.cond (.t 21) (.skip) (.exit 2))) (.seq (.block 3 (.seq (.reg r53_7) (.seq (.reg r53_8) (.seq (.reg r53_9) (.cond (.t 29) (.reg r53_10) (.skip)))))) (.reg r53_11))
@[simp] theorem l53_0e (K : Orc) (s : St) : exec K l53_0 s = exec K (.seq (.seq (.reg r53_6) (.cond (.t 21) (.skip) (.exit 2))) (.seq (.block 3 (.seq (.reg r53_7) (.seq (.reg r53_8) (.seq (.reg r53_9) (.cond (.t 29) (.reg r53_10) (.skip)))))) (.reg r53_11))) s := rfl
@[simp] def r53_12 : AReg := ⟨[0, 3, 4], [], [
    ⟨some 11, .mv (.t 4), none, false⟩,
    ⟨some 12, .bin .int .add (.t 11) (.c (.dat (.int .i64 1))), none, false⟩,
    ⟨some 4, .mv (.t 12), none, false⟩], []⟩
def l53_1 : AC := .seq (.seq (.reg r53_3) (.cond (.t 10) (.skip) (.exit 0))) (.seq (.block 1 (.seq (.reg r53_4) (.seq (.reg r53_5) (.block 2 (.loop l53_0))))) (.reg r53_12))
@[simp] theorem l53_1e (K : Orc) (s : St) : exec K l53_1 s = exec K (.seq (.seq (.reg r53_3) (.cond (.t 10) (.skip) (.exit 0))) (.seq (.block 1 (.seq (.reg r53_4) (.seq (.reg r53_5) (.block 2 (.loop l53_0))))) (.reg r53_12))) s := rfl
@[simp] def r53_13 : AReg := ⟨[3], [], [
    ⟨some 32, .mv (.t 3), none, false⟩,
    ⟨some 33, .bin .int .xor (.t 32) (.c (.dat (.int .u32 4294967295))), none, false⟩,
    ⟨some 2, .mv (.t 33), none, false⟩], []⟩
@[simp] def fn53 : AFun := ⟨1, [2], false,
  .seq (.reg r53_0) (.seq (.reg r53_1) (.seq (.seq (.reg r53_2) (.block 0 (.loop l53_1))) (.seq (.reg r53_13) (.ret)))), none⟩

theorem c53 : cFun Try.prog ann53 false 53 = some fn53 := by kernel_rfl

/-! 54: modelcheck/modelcheckref50.bytes -/

def ann54 : Ann := [{ id := 0, live := [0, 1] },
  { id := 1, live := [0, 1], marks := [(0, { md := .o })] },
  { id := 2, live := [0, 1, 5] },
  { id := 3, live := [0, 1, 5, 6], drop := [5] },
  { id := 5, live := [0, 1, 5, 6], marks := [(5, { md := .o })] },
  { id := 6, live := [0, 1, 5, 6] },
  { id := 4, live := [0, 1, 5, 6] },
  { id := 7, live := [5] }]

@[simp] def r54_0 : AReg := ⟨[0, 1], [], [
    ⟨some 4, .mv (.c .nils), none, false⟩], []⟩
@[simp] def r54_1 : AReg := ⟨[0, 1], [], [
    ⟨some 5, .mvNil .o 1, none, false⟩], []⟩
@[simp] def r54_2 : AReg := ⟨[0, 1, 5], [], [
    ⟨some 6, .mv (.c (.dat (.int .i64 0))), none, false⟩], []⟩
@[simp] def r54_3 : AReg := ⟨[0, 1, 5, 6], [5], [
    ⟨some 7, .mv (.t 6), none, false⟩,
    ⟨some 8, .mv (.t 1), none, false⟩,
    ⟨some 9, .bin .int .lss (.t 7) (.t 8), none, false⟩], []⟩
@[simp] def r54_4 : AReg := ⟨[0, 1, 5, 6], [], [
    ⟨some 12, .mv (.t 5), none, false⟩,
    ⟨some 13, .mv (.t 0), none, false⟩,
    ⟨some 14, .bin .int .rem (.t 13) (.c (.dat (.int .i64 256))), none, false⟩,
    ⟨some 15, .cvt .u8 (.t 14), none, false⟩,
    ⟨some 16, .bldS .d 1 [(.t 15)], none, false⟩,
    ⟨some 17, .app .o 1 1 (.t 12) (.t 16), none, false⟩,
    ⟨some 5, .mv (.t 17), none, false⟩], []⟩
@[simp] def r54_5 : AReg := ⟨[0, 1, 5, 6], [], [
    ⟨some 18, .mv (.t 0), none, false⟩,
    ⟨some 19, .bin .int .quo (.t 18) (.c (.dat (.int .i64 256))), none, false⟩,
    ⟨some 0, .mv (.t 19), none, false⟩], []⟩
@[simp] def r54_6 : AReg := ⟨[0, 1, 5, 6], [], [
    ⟨some 10, .mv (.t 6), none, false⟩,
    ⟨some 11, .bin .int .add (.t 10) (.c (.dat (.int .i64 1))), none, false⟩,
    ⟨some 6, .mv (.t 11), none, false⟩], []⟩
def l54_0 : AC := .seq (.seq (.reg r54_3) (.cond (.t 9) (.skip) (.exit 0))) (.seq (.block 1 (.seq (.reg r54_4) (.reg r54_5))) (.reg r54_6))
@[simp] theorem l54_0e (K : Orc) (s : St) : exec K l54_0 s = exec K (.seq (.seq (.reg r54_3) (.cond (.t 9) (.skip) (.exit 0))) (.seq (.block 1 (.seq (.reg r54_4) (.reg r54_5))) (.reg r54_6))) s := rfl
@[simp] def r54_7 : AReg := ⟨[5], [], [
    ⟨some 20, .mv (.t 5), none, false⟩,
    ⟨some 4, .mv (.t 20), none, false⟩], []⟩
@[simp] def fn54 : AFun := ⟨2, [4], true,
  .seq (.reg r54_0) (.seq (.reg r54_1) (.seq (.seq (.reg r54_2) (.block 0 (.loop l54_0))) (.seq (.reg r54_7) (.ret)))), none⟩

theorem c54 : cFun Try.prog ann54 true 54 = some fn54 := by kernel_rfl

/-! 55: modelcheck/frame.decode -/

def ann55 : Ann := [{ id := 0, live := [0] },
  { id := 1, live := [0] },
  { id := 2, live := [0, 5] },
  { id := 3, live := [0, 5, 6] },
  { id := 4, live := [] },
  { id := 5, live := [0, 5, 6] },
  { id := 6, live := [] },
  { id := 7, live := [0, 5, 6] },
  { id := 8, live := [0, 5, 6] },
  { id := 9, live := [0, 5, 6] },
  { id := 10, live := [0, 5, 6] },
  { id := 11, live := [] },
  { id := 12, live := [0, 5, 6] },
  { id := 13, live := [5, 6] },
  { id := 14, live := [] },
  { id := 15, live := [5, 6] }]

@[simp] def r55_0 : AReg := ⟨[0], [], [
    ⟨some 2, .mv (.c (.dat (.int .i64 0))), none, false⟩,
    ⟨some 3, .mv (.c (.dat (.int .i64 0))), none, false⟩,
    ⟨some 4, .mv (.c (.dat (.int .i64 0))), none, false⟩], []⟩
@[simp] def r55_1 : AReg := ⟨[0], [], [
    ⟨some 5, .mv (.c (.dat (.int .u64 0))), none, false⟩], []⟩
@[simp] def r55_2 : AReg := ⟨[0, 5], [], [
    ⟨some 6, .mv (.c (.dat (.int .i64 0))), none, false⟩], []⟩
@[simp] def r55_3 : AReg := ⟨[0, 5, 6], [], [
    ⟨some 8, .mv (.t 6), none, false⟩,
    ⟨some 9, .bin .int .eql (.t 8) (.c (.dat (.int .i64 9))), none, false⟩,
    ⟨some 7, .mv (.t 9), none, false⟩], []⟩
@[simp] def r55_4 : AReg := ⟨[], [], [
    ⟨some 2, .mv (.c (.dat (.int .i64 0))), none, false⟩,
    ⟨some 3, .mv (.c (.dat (.int .i64 0))), none, false⟩,
    ⟨some 4, .mv (.c (.dat (.int .i64 2))), none, false⟩], []⟩
@[simp] def r55_5 : AReg := ⟨[0, 5, 6], [], [
    ⟨some 11, .mv (.t 6), none, false⟩,
    ⟨some 12, .mv (.t 0), none, false⟩,
    ⟨some 13, .len false (.t 12), none, false⟩,
    ⟨some 14, .bin .int .eql (.t 11) (.t 13), none, false⟩,
    ⟨some 10, .mv (.t 14), none, false⟩], []⟩
@[simp] def r55_6 : AReg := ⟨[], [], [
    ⟨some 2, .mv (.c (.dat (.int .i64 0))), none, false⟩,
    ⟨some 3, .mv (.c (.dat (.int .i64 0))), none, false⟩,
    ⟨some 4, .mv (.c (.dat (.int .i64 22))), none, false⟩], []⟩
@[simp] def r55_7 : AReg := ⟨[0, 5, 6], [], [
    ⟨some 16, .mv (.t 0), none, false⟩,
    ⟨some 17, .mv (.t 6), none, false⟩,
    ⟨some 18, .iAddr 1 (.t 16) (.t 17), none, false⟩,
    ⟨some 19, .ld 1 false (.t 18), none, false⟩,
    ⟨some 20, .bin .int .lss (.t 19) (.c (.dat (.int .u8 128))), none, false⟩,
    ⟨some 15, .mv (.t 20), none, false⟩], []⟩
@[simp] def r55_8 : AReg := ⟨[0, 5, 6], [], [
    ⟨some 21, .mv (.t 5), none, false⟩,
    ⟨some 22, .mv (.t 0), none, false⟩,
    ⟨some 23, .mv (.t 6), none, false⟩,
    ⟨some 24, .iAddr 1 (.t 22) (.t 23), none, false⟩,
    ⟨some 25, .ld 1 false (.t 24), none, false⟩,
    ⟨some 26, .bin .int .sub (.t 25) (.c (.dat (.int .u8 128))), none, false⟩,
    ⟨some 27, .cvt .u64 (.t 26), none, false⟩,
    ⟨some 28, .mv (.t 6), none, false⟩,
    ⟨some 29, .bin .int .mul (.c (.dat (.int .i64 7))) (.t 28), none, false⟩,
    ⟨some 30, .bin .int .shl (.t 27) (.t 29), none, false⟩,
    ⟨some 31, .bin .int .or (.t 21) (.t 30), none, false⟩,
    ⟨some 5, .mv (.t 31), none, false⟩], []⟩
@[simp] def r55_9 : AReg := ⟨[0, 5, 6], [], [
    ⟨some 32, .mv (.t 6), none, false⟩,
    ⟨some 33, .bin .int .add (.t 32) (.c (.dat (.int .i64 1))), none, false⟩,
    ⟨some 6, .mv (.t 33), none, false⟩], []⟩
def l55_0 : AC := .block 1 (.seq (.block 2 (.seq (.reg r55_3) (.cond (.t 7) (.seq (.reg r55_4) (.ret)) (.seq (.reg r55_5) (.cond (.t 10) (.seq (.reg r55_6) (.ret)) (.seq (.reg r55_7) (.cond (.t 15) (.exit 0) (.skip)))))))) (.seq (.reg r55_8) (.reg r55_9)))
@[simp] theorem l55_0e (K : Orc) (s : St) : exec K l55_0 s = exec K (.block 1 (.seq (.block 2 (.seq (.reg r55_3) (.cond (.t 7) (.seq (.reg r55_4) (.ret)) (.seq (.reg r55_5) (.cond (.t 10) (.seq (.reg r55_6) (.ret)) (.seq (.reg r55_7) (.cond (.t 15) (.exit 0) (.skip)))))))) (.seq (.reg r55_8) (.reg r55_9)))) s := rfl
@[simp] def r55_10 : AReg := ⟨[0, 5, 6], [], [
    ⟨some 34, .mv (.t 0), none, false⟩,
    ⟨some 35, .mv (.t 6), none, false⟩,
    ⟨some 36, .iAddr 1 (.t 34) (.t 35), none, false⟩,
    ⟨some 37, .ld 1 false (.t 36), none, false⟩,
    ⟨some 38, .bin .int .eql (.t 37) (.c (.dat (.int .u8 0))), none, false⟩,
    ⟨some 39, .mv (.t 38), none, false⟩,
    ⟨some 40, .mv (.t 6), some (39, true), false⟩,
    ⟨some 41, .bin .int .gtr (.t 40) (.c (.dat (.int .i64 0))), some (39, true), false⟩,
    ⟨some 42, .pick (.t 39) (.t 41) (.c (.dat (.bool false))), none, false⟩], []⟩
@[simp] def r55_11 : AReg := ⟨[], [], [
    ⟨some 2, .mv (.c (.dat (.int .i64 0))), none, false⟩,
    ⟨some 3, .mv (.c (.dat (.int .i64 0))), none, false⟩,
    ⟨some 4, .mv (.c (.dat (.int .i64 3))), none, false⟩], []⟩
@[simp] def r55_12 : AReg := ⟨[0, 5, 6], [], [
    ⟨some 43, .mv (.t 5), none, false⟩,
    ⟨some 44, .mv (.t 0), none, false⟩,
    ⟨some 45, .mv (.t 6), none, false⟩,
    ⟨some 46, .iAddr 1 (.t 44) (.t 45), none, false⟩,
    ⟨some 47, .ld 1 false (.t 46), none, false⟩,
    ⟨some 48, .cvt .u64 (.t 47), none, false⟩,
    ⟨some 49, .mv (.t 6), none, false⟩,
    ⟨some 50, .bin .int .mul (.c (.dat (.int .i64 7))) (.t 49), none, false⟩,
    ⟨some 51, .bin .int .shl (.t 48) (.t 50), none, false⟩,
    ⟨some 52, .bin .int .or (.t 43) (.t 51), none, false⟩,
    ⟨some 5, .mv (.t 52), none, false⟩], []⟩
@[simp] def r55_13 : AReg := ⟨[5, 6], [], [
    ⟨some 53, .mv (.t 5), none, false⟩,
    ⟨some 54, .bin .int .gtr (.t 53) (.c (.dat (.int .u64 4611686018427387904))), none, false⟩], []⟩
@[simp] def r55_14 : AReg := ⟨[], [], [
    ⟨some 2, .mv (.c (.dat (.int .i64 0))), none, false⟩,
    ⟨some 3, .mv (.c (.dat (.int .i64 0))), none, false⟩,
    ⟨some 4, .mv (.c (.dat (.int .i64 2))), none, false⟩], []⟩
@[simp] def r55_15 : AReg := ⟨[5, 6], [], [
    ⟨some 55, .mv (.t 5), none, false⟩,
    ⟨some 56, .cvt .i64 (.t 55), none, false⟩,
    ⟨some 57, .mv (.t 6), none, false⟩,
    ⟨some 58, .bin .int .add (.t 57) (.c (.dat (.int .i64 1))), none, false⟩,
    ⟨some 2, .mv (.t 56), none, false⟩,
    ⟨some 3, .mv (.t 58), none, false⟩,
    ⟨some 4, .mv (.c (.dat (.int .i64 0))), none, false⟩], []⟩
@[simp] def fn55 : AFun := ⟨1, [2, 3, 4], false,
  .seq (.reg r55_0) (.seq (.reg r55_1) (.seq (.reg r55_2) (.seq (.skip) (.seq (.block 0 (.loop l55_0)) (.seq (.seq (.reg r55_10) (.cond (.t 42) (.seq (.reg r55_11) (.ret)) (.skip))) (.seq (.reg r55_12) (.seq (.seq (.reg r55_13) (.cond (.t 54) (.seq (.reg r55_14) (.ret)) (.skip))) (.seq (.reg r55_15) (.ret))))))))), none⟩

theorem c55 : cFun Try.prog ann55 false 55 = some fn55 := by kernel_rfl

/-! 56: modelcheck/frame.sumBytes -/

def ann56 : Ann := [{ id := 0, live := [0] },
  { id := 1, live := [0] }]

@[simp] def r56_0 : AReg := ⟨[0], [], [
    ⟨some 2, .mv (.c .nils), none, false⟩], []⟩
@[simp] def r56_1 : AReg := ⟨[0], [], [
    ⟨some 3, .mv (.t 0), none, false⟩,
    ⟨some 4, .cvt .u8 (.t 3), none, false⟩,
    ⟨some 5, .mv (.t 0), none, false⟩,
    ⟨some 6, .bin .int .shr (.t 5) (.c (.dat (.int .u64 8))), none, false⟩,
    ⟨some 7, .cvt .u8 (.t 6), none, false⟩,
    ⟨some 8, .mv (.t 0), none, false⟩,
    ⟨some 9, .bin .int .shr (.t 8) (.c (.dat (.int .u64 16))), none, false⟩,
    ⟨some 10, .cvt .u8 (.t 9), none, false⟩,
    ⟨some 11, .mv (.t 0), none, false⟩,
    ⟨some 12, .bin .int .shr (.t 11) (.c (.dat (.int .u64 24))), none, false⟩,
    ⟨some 13, .cvt .u8 (.t 12), none, false⟩,
    ⟨some 14, .bldS .d 1 [(.t 4), (.t 7), (.t 10), (.t 13)], none, false⟩,
    ⟨some 2, .mv (.t 14), none, false⟩], []⟩
@[simp] def fn56 : AFun := ⟨1, [2], false,
  .seq (.reg r56_0) (.seq (.reg r56_1) (.ret)), none⟩

theorem c56 : cFun Try.prog ann56 false 56 = some fn56 := by kernel_rfl

/-! 57: modelcheck/frame.Checksum -/

def ann57 : Ann := [{ id := 0, live := [0] },
  { id := 1, live := [0] },
  { id := 2, live := [0, 3] },
  { id := 3, live := [3, 7, 8, 9] },
  { id := 4, live := [3, 7, 8, 9] },
  { id := 5, live := [3, 5, 7, 8, 9] },
  { id := 6, live := [3, 7, 8, 9] },
  { id := 7, live := [3, 7, 8, 9, 17] },
  { id := 8, live := [3, 7, 8, 9, 17] },
  { id := 9, live := [3, 6, 7, 8, 9, 17] },
  { id := 10, live := [3, 6, 7, 8, 9, 17] },
  { id := 11, live := [3, 7, 8, 9, 17] },
  { id := 12, live := [3, 7, 8, 9, 17] },
  { id := 13, live := [3, 7, 8, 9] },
  { id := 14, live := [3] }]

@[simp] def r57_0 : AReg := ⟨[0], [], [
    ⟨some 2, .mv (.c (.dat (.int .u32 0))), none, false⟩], []⟩
@[simp] def r57_1 : AReg := ⟨[0], [], [
    ⟨some 3, .mv (.c (.dat (.int .u32 4294967295))), none, false⟩], []⟩
@[simp] def r57_2 : AReg := ⟨[0, 3], [], [
    ⟨some 7, .mv (.t 0), none, false⟩,
    ⟨some 8, .len false (.t 7), none, false⟩,
    ⟨some 9, .mv (.c (.dat (.int .i64 0))), none, false⟩], []⟩
@[simp] def r57_3 : AReg := ⟨[3, 7, 8, 9], [], [
    ⟨some 10, .bin .int .lss (.t 9) (.t 8), none, false⟩], []⟩
@[simp] def r57_4 : AReg := ⟨[3, 7, 8, 9], [], [
    ⟨some 11, .iAddr 1 (.t 7) (.t 9), none, false⟩,
    ⟨some 12, .ld 1 false (.t 11), none, false⟩,
    ⟨some 5, .mv (.t 12), none, false⟩], []⟩
@[simp] def r57_5 : AReg := ⟨[3, 5, 7, 8, 9], [], [
    ⟨some 13, .mv (.t 3), none, false⟩,
    ⟨some 14, .mv (.t 5), none, false⟩,
    ⟨some 15, .cvt .u32 (.t 14), none, false⟩,
    ⟨some 16, .bin .int .xor (.t 13) (.t 15), none, false⟩,
    ⟨some 3, .mv (.t 16), none, false⟩], []⟩
@[simp] def r57_6 : AReg := ⟨[3, 7, 8, 9], [], [
    ⟨some 17, .mv (.c (.dat (.int .i64 0))), none, false⟩], []⟩
@[simp] def r57_7 : AReg := ⟨[3, 7, 8, 9, 17], [], [
    ⟨some 18, .bin .int .lss (.t 17) (.c (.dat (.int .i64 8))), none, false⟩], []⟩
@[simp] def r57_8 : AReg := ⟨[3, 7, 8, 9, 17], [], [
    ⟨some 19, .mv (.t 3), none, false⟩,
    ⟨some 20, .bin .int .and (.t 19) (.c (.dat (.int .u32 1))), none, false⟩,
    ⟨some 6, .mv (.t 20), none, false⟩], []⟩
@[simp] def r57_9 : AReg := ⟨[3, 6, 7, 8, 9, 17], [], [
    ⟨some 21, .mv (.t 3), none, false⟩,
    ⟨some 22, .bin .int .shr (.t 21) (.c (.dat (.int .u64 1))), none, false⟩,
    ⟨some 3, .mv (.t 22), none, false⟩], []⟩
@[simp] def r57_10 : AReg := ⟨[3, 6, 7, 8, 9, 17], [], [
    ⟨some 23, .mv (.t 6), none, false⟩,
    ⟨some 24, .bin .int .eql (.t 23) (.c (.dat (.int .u32 1))), none, false⟩], []⟩
@[simp] def r57_11 : AReg := ⟨[3, 7, 8, 9, 17], [], [
    ⟨some 25, .mv (.t 3), none, false⟩,
    ⟨some 26, .bin .int .xor (.t 25) (.c (.dat (.int .u32 3988292384))), none, false⟩,
    ⟨some 3, .mv (.t 26), none, false⟩], []⟩
@[simp] def r57_12 : AReg := ⟨[3, 7, 8, 9, 17], [], [
    ⟨some 27, .bin .int .add (.t 17) (.c (.dat (.int .i64 1))), none, false⟩,
    ⟨some 17, .mv (.t 27), none, false⟩], []⟩
def l57_0 : AC := .seq (.reg r57_7) (.seq (.cond (.t 18) (.skip) (.exit 2)) (.seq (.block 3 (.seq (.reg r57_8) (.seq (.reg r57_9) (.seq (.reg r57_10) (.cond (.t 24) (.reg r57_11) (.skip)))))) (.reg r57_12)))
@[simp] theorem l57_0e (K : Orc) (s : St) : exec K l57_0 s = exec K (.seq (.reg r57_7) (.seq (.cond (.t 18) (.skip) (.exit 2)) (.seq (.block 3 (.seq (.reg r57_8) (.seq (.reg r57_9) (.seq (.reg r57_10) (.cond (.t 24) (.reg r57_11) (.skip)))))) (.reg r57_12)))) s := rfl
@[simp] def r57_13 : AReg := ⟨[3, 7, 8, 9], [], [
    ⟨some 28, .bin .int .add (.t 9) (.c (.dat (.int .i64 1))), none, false⟩,
    ⟨some 9, .mv (.t 28), none, false⟩], []⟩
def l57_1 : AC := .seq (.reg r57_3) (.seq (.cond (.t 10) (.skip) (.exit 0)) (.seq (.block 1 (.seq (.reg r57_4) (.seq (.reg r57_5) (.seq (.reg r57_6) (.block 2 (.loop l57_0)))))) (.reg r57_13)))
@[simp] theorem l57_1e (K : Orc) (s : St) : exec K l57_1 s = exec K (.seq (.reg r57_3) (.seq (.cond (.t 10) (.skip) (.exit 0)) (.seq (.block 1 (.seq (.reg r57_4) (.seq (.reg r57_5) (.seq (.reg r57_6) (.block 2 (.loop l57_0)))))) (.reg r57_13)))) s := rfl
@[simp] def r57_14 : AReg := ⟨[3], [], [
    ⟨some 29, .mv (.t 3), none, false⟩,
    ⟨some 30, .un .xor (.t 29), none, false⟩,
    ⟨some 2, .mv (.t 30), none, false⟩], []⟩
@[simp] def fn57 : AFun := ⟨1, [2], false,
  .seq (.reg r57_0) (.seq (.reg r57_1) (.seq (.seq (.reg r57_2) (.block 0 (.loop l57_1))) (.seq (.reg r57_14) (.ret)))), none⟩

theorem c57 : cFun Try.prog ann57 false 57 = some fn57 := by kernel_rfl

/-! 58: modelcheck/frame.join -/

def ann58 : Ann := [{ id := 0, live := [0] },
  { id := 1, live := [0], marks := [(0, { md := .o })] },
  { id := 2, live := [0, 3] },
  { id := 3, live := [3, 6, 7, 8], drop := [3, 6] },
  { id := 4, live := [3, 6, 7, 8] },
  { id := 5, live := [3, 5, 6, 7, 8], marks := [(2, { md := .o })] },
  { id := 6, live := [3, 6, 7, 8] },
  { id := 7, live := [3] }]

@[simp] def r58_0 : AReg := ⟨[0], [], [
    ⟨some 2, .mv (.c .nils), none, false⟩], []⟩
@[simp] def r58_1 : AReg := ⟨[0], [], [
    ⟨some 3, .mvNil .o 1, none, false⟩], []⟩
@[simp] def r58_2 : AReg := ⟨[0, 3], [], [
    ⟨some 6, .mv (.t 0), none, false⟩,
    ⟨some 7, .len false (.t 6), none, false⟩,
    ⟨some 8, .mv (.c (.dat (.int .i64 0))), none, false⟩], []⟩
@[simp] def r58_3 : AReg := ⟨[3, 6, 7, 8], [3, 6], [
    ⟨some 9, .bin .int .lss (.t 8) (.t 7), none, false⟩], []⟩
@[simp] def r58_4 : AReg := ⟨[3, 6, 7, 8], [], [
    ⟨some 10, .iAddr 1 (.t 6) (.t 8), none, false⟩,
    ⟨some 11, .ld 1 false (.t 10), none, false⟩,
    ⟨some 5, .mv (.t 11), none, false⟩], []⟩
@[simp] def r58_5 : AReg := ⟨[3, 5, 6, 7, 8], [], [
    ⟨some 12, .mv (.t 3), none, false⟩,
    ⟨some 13, .mv (.t 5), none, false⟩,
    ⟨some 14, .app .o 1 1 (.t 12) (.t 13), none, false⟩,
    ⟨some 3, .mv (.t 14), none, false⟩], []⟩
@[simp] def r58_6 : AReg := ⟨[3, 6, 7, 8], [], [
    ⟨some 15, .bin .int .add (.t 8) (.c (.dat (.int .i64 1))), none, false⟩,
    ⟨some 8, .mv (.t 15), none, false⟩], []⟩
def l58_0 : AC := .seq (.reg r58_3) (.seq (.cond (.t 9) (.skip) (.exit 0)) (.seq (.block 1 (.seq (.reg r58_4) (.reg r58_5))) (.reg r58_6)))
@[simp] theorem l58_0e (K : Orc) (s : St) : exec K l58_0 s = exec K (.seq (.reg r58_3) (.seq (.cond (.t 9) (.skip) (.exit 0)) (.seq (.block 1 (.seq (.reg r58_4) (.reg r58_5))) (.reg r58_6)))) s := rfl
@[simp] def r58_7 : AReg := ⟨[3], [], [
    ⟨some 16, .mv (.t 3), none, false⟩,
    ⟨some 2, .mv (.t 16), none, false⟩], []⟩
@[simp] def fn58 : AFun := ⟨1, [2], false,
  .seq (.reg r58_0) (.seq (.reg r58_1) (.seq (.seq (.reg r58_2) (.block 0 (.loop l58_0))) (.seq (.reg r58_7) (.ret)))), none⟩

theorem c58 : cFun Try.prog ann58 false 58 = some fn58 := by kernel_rfl

/-! 59: modelcheck/frame.uintBytes -/

def ann59 : Ann := [{ id := 0, live := [0] },
  { id := 1, live := [0], marks := [(0, { md := .o })] },
  { id := 2, live := [0, 3], drop := [3] },
  { id := 3, live := [0, 3], marks := [(6, { md := .o })] },
  { id := 4, live := [0, 3] },
  { id := 5, live := [0, 3], marks := [(4, { md := .o })] }]

@[simp] def r59_0 : AReg := ⟨[0], [], [
    ⟨some 2, .mv (.c .nils), none, false⟩], []⟩
@[simp] def r59_1 : AReg := ⟨[0], [], [
    ⟨some 3, .mvNil .o 1, none, false⟩], []⟩
@[simp] def r59_2 : AReg := ⟨[0, 3], [3], [
    ⟨some 4, .mv (.t 0), none, false⟩,
    ⟨some 5, .bin .int .geq (.t 4) (.c (.dat (.int .i64 128))), none, false⟩], []⟩
@[simp] def r59_3 : AReg := ⟨[0, 3], [], [
    ⟨some 6, .mv (.t 3), none, false⟩,
    ⟨some 7, .mv (.t 0), none, false⟩,
    ⟨some 8, .bin .int .rem (.t 7) (.c (.dat (.int .i64 128))), none, false⟩,
    ⟨some 9, .bin .int .add (.t 8) (.c (.dat (.int .i64 128))), none, false⟩,
    ⟨some 10, .cvt .u8 (.t 9), none, false⟩,
    ⟨some 11, .bldS .d 1 [(.t 10)], none, false⟩,
    ⟨some 12, .app .o 1 1 (.t 6) (.t 11), none, false⟩,
    ⟨some 3, .mv (.t 12), none, false⟩], []⟩
@[simp] def r59_4 : AReg := ⟨[0, 3], [], [
    ⟨some 13, .mv (.t 0), none, false⟩,
    ⟨some 14, .bin .int .quo (.t 13) (.c (.dat (.int .i64 128))), none, false⟩,
    ⟨some 0, .mv (.t 14), none, false⟩], []⟩
def l59_0 : AC := .seq (.seq (.reg r59_2) (.cond (.t 5) (.skip) (.exit 0))) (.block 1 (.seq (.reg r59_3) (.reg r59_4)))
@[simp] theorem l59_0e (K : Orc) (s : St) : exec K l59_0 s = exec K (.seq (.seq (.reg r59_2) (.cond (.t 5) (.skip) (.exit 0))) (.block 1 (.seq (.reg r59_3) (.reg r59_4)))) s := rfl
@[simp] def r59_5 : AReg := ⟨[0, 3], [], [
    ⟨some 15, .mv (.t 3), none, false⟩,
    ⟨some 16, .mv (.t 0), none, false⟩,
    ⟨some 17, .cvt .u8 (.t 16), none, false⟩,
    ⟨some 18, .bldS .d 1 [(.t 17)], none, false⟩,
    ⟨some 19, .app .o 1 1 (.t 15) (.t 18), none, false⟩,
    ⟨some 2, .mv (.t 19), none, false⟩], []⟩
@[simp] def fn59 : AFun := ⟨1, [2], false,
  .seq (.reg r59_0) (.seq (.reg r59_1) (.seq (.block 0 (.loop l59_0)) (.seq (.reg r59_5) (.ret)))), none⟩

theorem c59 : cFun Try.prog ann59 false 59 = some fn59 := by kernel_rfl

/-! 60: modelcheck/modelcheckref06.Uint -/

def ann60 : Ann := [{ id := 0, live := [0] },
  { id := 1, live := [0] },
  { id := 2, live := [0, 5] },
  { id := 3, live := [0, 5] },
  { id := 4, live := [0, 5] },
  { id := 5, live := [] },
  { id := 6, live := [0, 5] },
  { id := 7, live := [] },
  { id := 8, live := [0, 5] },
  { id := 9, live := [] },
  { id := 10, live := [0, 5] },
  { id := 11, live := [0, 5, 6] },
  { id := 12, live := [0, 5, 6, 7] },
  { id := 14, live := [0, 5, 6, 7] },
  { id := 13, live := [0, 5, 6, 7] },
  { id := 15, live := [0, 5, 6] },
  { id := 16, live := [] },
  { id := 17, live := [0, 5, 6], marks := [(1, { md := .o }), (6, { md := .o })] }]

@[simp] def r60_0 : AReg := ⟨[0], [], [
    ⟨some 2, .mv (.c (.dat (.int .i64 0))), none, false⟩,
    ⟨some 3, .mv (.c .nils), none, false⟩,
    ⟨some 4, .mv (.c (.dat (.int .i64 0))), none, false⟩], []⟩
@[simp] def r60_1 : AReg := ⟨[0], [], [
    ⟨some 5, .mv (.c (.dat (.int .i64 0))), none, false⟩], []⟩
@[simp] def r60_2 : AReg := ⟨[0, 5], [], [
    ⟨some 8, .mv (.t 5), none, false⟩,
    ⟨some 9, .mv (.t 0), none, false⟩,
    ⟨some 10, .len false (.t 9), none, false⟩,
    ⟨some 11, .bin .int .lss (.t 8) (.t 10), none, false⟩,
    ⟨some 12, .mv (.t 11), none, false⟩,
    ⟨some 13, .mv (.t 5), some (12, true), false⟩,
    ⟨some 14, .bin .int .lss (.t 13) (.c (.dat (.int .i64 9))), some (12, true), false⟩,
    ⟨some 15, .pick (.t 12) (.t 14) (.c (.dat (.bool false))), none, false⟩,
    ⟨some 16, .mv (.t 15), none, false⟩,
    ⟨some 17, .mv (.t 0), some (16, true), false⟩,
    ⟨some 18, .mv (.t 5), some (16, true), false⟩,
    ⟨some 19, .iAddr 1 (.t 17) (.t 18), some (16, true), false⟩,
    ⟨some 20, .ld 1 false (.t 19), some (16, true), false⟩,
    ⟨some 21, .bin .int .geq (.t 20) (.c (.dat (.int .u8 128))), some (16, true), false⟩,
    ⟨some 22, .pick (.t 16) (.t 21) (.c (.dat (.bool false))), none, false⟩], []⟩
@[simp] def r60_3 : AReg := ⟨[0, 5], [], [
    ⟨some 23, .mv (.t 5), none, false⟩,
    ⟨some 24, .bin .int .add (.t 23) (.c (.dat (.int .i64 1))), none, false⟩,
    ⟨some 5, .mv (.t 24), none, false⟩], []⟩
def l60_0 : AC := .seq (.seq (.reg r60_2) (.cond (.t 22) (.skip) (.exit 0))) (.block 1 (.reg r60_3))
@[simp] theorem l60_0e (K : Orc) (s : St) : exec K l60_0 s = exec K (.seq (.seq (.reg r60_2) (.cond (.t 22) (.skip) (.exit 0))) (.block 1 (.reg r60_3))) s := rfl
@[simp] def r60_4 : AReg := ⟨[0, 5], [], [
    ⟨some 25, .mv (.t 5), none, false⟩,
    ⟨some 26, .bin .int .eql (.t 25) (.c (.dat (.int .i64 9))), none, false⟩], []⟩
@[simp] def r60_5 : AReg := ⟨[], [], [
    ⟨some 2, .mv (.c (.dat (.int .i64 0))), none, false⟩,
    ⟨some 3, .mv (.c .nils), none, false⟩,
    ⟨some 4, .mv (.c (.dat (.int .i64 2))), none, false⟩], []⟩
@[simp] def r60_6 : AReg := ⟨[0, 5], [], [
    ⟨some 27, .mv (.t 5), none, false⟩,
    ⟨some 28, .mv (.t 0), none, false⟩,
    ⟨some 29, .len false (.t 28), none, false⟩,
    ⟨some 30, .bin .int .eql (.t 27) (.t 29), none, false⟩], []⟩
@[simp] def r60_7 : AReg := ⟨[], [], [
    ⟨some 2, .mv (.c (.dat (.int .i64 0))), none, false⟩,
    ⟨some 3, .mv (.c .nils), none, false⟩,
    ⟨some 4, .mv (.c (.dat (.int .i64 22))), none, false⟩], []⟩
@[simp] def r60_8 : AReg := ⟨[0, 5], [], [
    ⟨some 31, .mv (.t 5), none, false⟩,
    ⟨some 32, .bin .int .gtr (.t 31) (.c (.dat (.int .i64 0))), none, false⟩,
    ⟨some 33, .mv (.t 32), none, false⟩,
    ⟨some 34, .mv (.t 0), some (33, true), false⟩,
    ⟨some 35, .mv (.t 5), some (33, true), false⟩,
    ⟨some 36, .iAddr 1 (.t 34) (.t 35), some (33, true), false⟩,
    ⟨some 37, .ld 1 false (.t 36), some (33, true), false⟩,
    ⟨some 38, .bin .int .eql (.t 37) (.c (.dat (.int .u8 0))), some (33, true), false⟩,
    ⟨some 39, .pick (.t 33) (.t 38) (.c (.dat (.bool false))), none, false⟩], []⟩
@[simp] def r60_9 : AReg := ⟨[], [], [
    ⟨some 2, .mv (.c (.dat (.int .i64 0))), none, false⟩,
    ⟨some 3, .mv (.c .nils), none, false⟩,
    ⟨some 4, .mv (.c (.dat (.int .i64 3))), none, false⟩], []⟩
@[simp] def r60_10 : AReg := ⟨[0, 5], [], [
    ⟨some 6, .mv (.c (.dat (.int .i64 0))), none, false⟩], []⟩
@[simp] def r60_11 : AReg := ⟨[0, 5, 6], [], [
    ⟨some 40, .mv (.t 5), none, false⟩,
    ⟨some 7, .mv (.t 40), none, false⟩], []⟩
@[simp] def r60_12 : AReg := ⟨[0, 5, 6, 7], [], [
    ⟨some 41, .mv (.t 7), none, false⟩,
    ⟨some 42, .bin .int .geq (.t 41) (.c (.dat (.int .i64 0))), none, false⟩], []⟩
@[simp] def r60_13 : AReg := ⟨[0, 5, 6, 7], [], [
    ⟨some 45, .mv (.t 6), none, false⟩,
    ⟨some 46, .bin .int .mul (.t 45) (.c (.dat (.int .i64 128))), none, false⟩,
    ⟨some 47, .mv (.t 0), none, false⟩,
    ⟨some 48, .mv (.t 7), none, false⟩,
    ⟨some 49, .iAddr 1 (.t 47) (.t 48), none, false⟩,
    ⟨some 50, .ld 1 false (.t 49), none, false⟩,
    ⟨some 51, .bin .int .rem (.t 50) (.c (.dat (.int .u8 128))), none, false⟩,
    ⟨some 52, .cvt .i64 (.t 51), none, false⟩,
    ⟨some 53, .bin .int .add (.t 46) (.t 52), none, false⟩,
    ⟨some 6, .mv (.t 53), none, false⟩], []⟩
@[simp] def r60_14 : AReg := ⟨[0, 5, 6, 7], [], [
    ⟨some 43, .mv (.t 7), none, false⟩,
    ⟨some 44, .bin .int .sub (.t 43) (.c (.dat (.int .i64 1))), none, false⟩,
    ⟨some 7, .mv (.t 44), none, false⟩], []⟩
def l60_1 : AC := .seq (.seq (.reg r60_12) (.cond (.t 42) (.skip) (.exit 2))) (.seq (.block 3 (.reg r60_13)) (.reg r60_14))
@[simp] theorem l60_1e (K : Orc) (s : St) : exec K l60_1 s = exec K (.seq (.seq (.reg r60_12) (.cond (.t 42) (.skip) (.exit 2))) (.seq (.block 3 (.reg r60_13)) (.reg r60_14))) s := rfl
@[simp] def r60_15 : AReg := ⟨[0, 5, 6], [], [
    ⟨some 54, .mv (.t 6), none, false⟩,
    ⟨some 55, .bin .int .gtr (.t 54) (.c (.dat (.int .i64 4611686018427387904))), none, false⟩], []⟩
@[simp] def r60_16 : AReg := ⟨[], [], [
    ⟨some 2, .mv (.c (.dat (.int .i64 0))), none, false⟩,
    ⟨some 3, .mv (.c .nils), none, false⟩,
    ⟨some 4, .mv (.c (.dat (.int .i64 2))), none, false⟩], []⟩
@[simp] def r60_17 : AReg := ⟨[0, 5, 6], [], [
    ⟨some 56, .mv (.t 6), none, false⟩,
    ⟨some 57, .bldS .o 1 [], none, false⟩,
    ⟨some 58, .mv (.t 0), none, false⟩,
    ⟨some 59, .mv (.t 5), none, false⟩,
    ⟨some 60, .bin .int .add (.t 59) (.c (.dat (.int .i64 1))), none, false⟩,
    ⟨some 61, .slc false 1 (.t 58) (some (.t 60)) none, none, false⟩,
    ⟨some 62, .app .o 1 1 (.t 57) (.t 61), none, false⟩,
    ⟨some 2, .mv (.t 56), none, false⟩,
    ⟨some 3, .mv (.t 62), none, false⟩,
    ⟨some 4, .mv (.c (.dat (.int .i64 0))), none, false⟩], []⟩
@[simp] def fn60 : AFun := ⟨1, [2, 3, 4], false,
  .seq (.reg r60_0) (.seq (.reg r60_1) (.seq (.block 0 (.loop l60_0)) (.seq (.seq (.reg r60_4) (.cond (.t 26) (.seq (.reg r60_5) (.ret)) (.skip))) (.seq (.seq (.reg r60_6) (.cond (.t 30) (.seq (.reg r60_7) (.ret)) (.skip))) (.seq (.seq (.reg r60_8) (.cond (.t 39) (.seq (.reg r60_9) (.ret)) (.skip))) (.seq (.reg r60_10) (.seq (.seq (.reg r60_11) (.block 2 (.loop l60_1))) (.seq (.seq (.reg r60_15) (.cond (.t 55) (.seq (.reg r60_16) (.ret)) (.skip))) (.seq (.reg r60_17) (.ret)))))))))), none⟩

theorem c60 : cFun Try.prog ann60 false 60 = some fn60 := by kernel_rfl

end Go.Am
