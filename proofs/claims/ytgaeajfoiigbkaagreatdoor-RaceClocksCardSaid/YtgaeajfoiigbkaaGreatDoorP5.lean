/- Parts of the proofs of the statement, joined and made short: WCode3. -/
import Derived.Test.YtgaeajfoiigbkaaGreatDoorP4
set_option linter.unusedVariables false
set_option linter.unusedSimpArgs false
set_option linter.unusedSectionVars false
namespace Go.Am.W
open Go.Proofs
def ann129 : Ann:=[{ id:=0,live:=[0,1] },
 { id:=1,live:=[0,1],marks:=[(0,{ md:=.o })] },
 { id:=2,live:=[0,1,5] },
 { id:=3,live:=[0,1,5,6,7],drop:=[0,1,5] },
 { id:=7,live:=[0,1,5,6,7] },
 { id:=8,live:=[0,1,5,6,7],marks:=[(6,{ md:=.o })] },
 { id:=9,live:=[0,1,5,6,7] },
 { id:=10,live:=[0,1,5,6,7] },
 { id:=11,live:=[0,1,5,6,7] },
 { id:=12,live:=[0,1,5,6,7],marks:=[(6,{ md:=.o })] },
 { id:=13,live:=[0,1,5,6,7] },
 { id:=14,live:=[0,1,5,6,7] },
 { id:=15,live:=[0,1,5,6,7],marks:=[(6,{ md:=.o })] },
 { id:=16,live:=[0,1,5,6,7] },
 { id:=4,live:=[0,1,5,6,7],marks:=[(19,{ md:=.o })] },
 { id:=5,live:=[0,1,5,6,7] },
 { id:=6,live:=[0,1,5,6,7] },
 { id:=17,live:=[0,1,5,6,7],marks:=[(4,{ md:=.o })] },
 { id:=18,live:=[1,5,7],marks:=[(4,{ md:=.o })] }]
@[simp] def r129_0 : AReg:=⟨[0,1],[],[
  ⟨some 4,.mv (.c .nils),none,false⟩],[]⟩
@[simp] def r129_1 : AReg:=⟨[0,1],[],[
  ⟨some 5,.mvNil .o 2,none,false⟩],[]⟩
@[simp] def r129_2 : AReg:=⟨[0,1,5],[],[
  ⟨some 6,.mv (.c (.dat (.int .i64 0))),none,false⟩,
  ⟨some 7,.mv (.c (.dat (.int .i64 0))),none,false⟩],[]⟩
@[simp] def r129_3 : AReg:=⟨[0,1,5,6,7],[0,1,5],[
  ⟨some 8,.mv (.t 6),none,false⟩,
  ⟨some 9,.mv (.t 0),none,false⟩,
  ⟨some 10,.len false (.t 9),none,false⟩,
  ⟨some 11,.bin .int .lss (.t 8) (.t 10),none,false⟩,
  ⟨some 12,.mv (.t 11),none,false⟩,
  ⟨some 13,.mv (.t 7),some (12,true),false⟩,
  ⟨some 14,.mv (.t 1),some (12,true),false⟩,
  ⟨some 15,.len false (.t 14),some (12,true),false⟩,
  ⟨some 16,.bin .int .lss (.t 13) (.t 15),some (12,true),false⟩,
  ⟨some 17,.pick (.t 12) (.t 16) (.c (.dat (.bool false))),none,false⟩],[]⟩
@[simp] def r129_4 : AReg:=⟨[0,1,5,6,7],[],[
  ⟨some 43,.mv (.t 0),none,false⟩,
  ⟨some 44,.mv (.t 6),none,false⟩,
  ⟨some 45,.iAddr 2 (.t 43) (.t 44),none,false⟩,
  ⟨some 46,.ld 2 true (.t 45),none,false⟩,
  ⟨some 47,.mv (.t 1),none,false⟩,
  ⟨some 48,.mv (.t 7),none,false⟩,
  ⟨some 49,.iAddr 2 (.t 47) (.t 48),none,false⟩,
  ⟨some 50,.ld 2 true (.t 49),none,false⟩,
  ⟨some 51,.bin (.agg [.int .i64,.int .i64]) .eql (.t 46) (.t 50),none,false⟩,
  ⟨some 42,.mv (.t 51),none,false⟩],[]⟩
@[simp] def r129_5 : AReg:=⟨[0,1,5,6,7],[],[
  ⟨some 52,.mv (.t 5),none,false⟩,
  ⟨some 53,.mv (.t 0),none,false⟩,
  ⟨some 54,.mv (.t 6),none,false⟩,
  ⟨some 55,.iAddr 2 (.t 53) (.t 54),none,false⟩,
  ⟨some 56,.ld 2 true (.t 55),none,false⟩,
  ⟨some 57,.bldS .d 2 [(.t 56)],none,false⟩,
  ⟨some 58,.app .o 2 16 (.t 52) (.t 57),none,false⟩,
  ⟨some 5,.mv (.t 58),none,false⟩],[]⟩
@[simp] def r129_6 : AReg:=⟨[0,1,5,6,7],[],[
  ⟨some 59,.mv (.t 6),none,false⟩,
  ⟨some 60,.bin .int .add (.t 59) (.c (.dat (.int .i64 1))),none,false⟩,
  ⟨some 6,.mv (.t 60),none,false⟩],[]⟩
@[simp] def r129_7 : AReg:=⟨[0,1,5,6,7],[],[
  ⟨some 61,.mv (.t 7),none,false⟩,
  ⟨some 62,.bin .int .add (.t 61) (.c (.dat (.int .i64 1))),none,false⟩,
  ⟨some 7,.mv (.t 62),none,false⟩],[]⟩
@[simp] def r129_8 : AReg:=⟨[0,1,5,6,7],[],[
  ⟨some 64,.mv (.t 0),none,false⟩,
  ⟨some 65,.mv (.t 6),none,false⟩,
  ⟨some 66,.iAddr 2 (.t 64) (.t 65),none,false⟩,
  ⟨some 67,.fAddr 0 (.t 66),none,false⟩,
  ⟨some 68,.ld 1 false (.t 67),none,false⟩,
  ⟨some 69,.mv (.t 1),none,false⟩,
  ⟨some 70,.mv (.t 7),none,false⟩,
  ⟨some 71,.iAddr 2 (.t 69) (.t 70),none,false⟩,
  ⟨some 72,.fAddr 0 (.t 71),none,false⟩,
  ⟨some 73,.ld 1 false (.t 72),none,false⟩,
  ⟨some 74,.bin .int .lss (.t 68) (.t 73),none,false⟩,
  ⟨some 63,.mv (.t 74),none,false⟩],[]⟩
@[simp] def r129_9 : AReg:=⟨[0,1,5,6,7],[],[
  ⟨some 75,.mv (.t 5),none,false⟩,
  ⟨some 76,.mv (.t 0),none,false⟩,
  ⟨some 77,.mv (.t 6),none,false⟩,
  ⟨some 78,.iAddr 2 (.t 76) (.t 77),none,false⟩,
  ⟨some 79,.ld 2 true (.t 78),none,false⟩,
  ⟨some 80,.bldS .d 2 [(.t 79)],none,false⟩,
  ⟨some 81,.app .o 2 16 (.t 75) (.t 80),none,false⟩,
  ⟨some 5,.mv (.t 81),none,false⟩],[]⟩
@[simp] def r129_10 : AReg:=⟨[0,1,5,6,7],[],[
  ⟨some 82,.mv (.t 6),none,false⟩,
  ⟨some 83,.bin .int .add (.t 82) (.c (.dat (.int .i64 1))),none,false⟩,
  ⟨some 6,.mv (.t 83),none,false⟩],[]⟩
@[simp] def r129_11 : AReg:=⟨[0,1,5,6,7],[],[
  ⟨some 85,.mv (.t 0),none,false⟩,
  ⟨some 86,.mv (.t 6),none,false⟩,
  ⟨some 87,.iAddr 2 (.t 85) (.t 86),none,false⟩,
  ⟨some 88,.fAddr 0 (.t 87),none,false⟩,
  ⟨some 89,.ld 1 false (.t 88),none,false⟩,
  ⟨some 90,.mv (.t 1),none,false⟩,
  ⟨some 91,.mv (.t 7),none,false⟩,
  ⟨some 92,.iAddr 2 (.t 90) (.t 91),none,false⟩,
  ⟨some 93,.fAddr 0 (.t 92),none,false⟩,
  ⟨some 94,.ld 1 false (.t 93),none,false⟩,
  ⟨some 95,.bin .int .gtr (.t 89) (.t 94),none,false⟩,
  ⟨some 84,.mv (.t 95),none,false⟩],[]⟩
@[simp] def r129_12 : AReg:=⟨[0,1,5,6,7],[],[
  ⟨some 96,.mv (.t 5),none,false⟩,
  ⟨some 97,.mv (.t 1),none,false⟩,
  ⟨some 98,.mv (.t 7),none,false⟩,
  ⟨some 99,.iAddr 2 (.t 97) (.t 98),none,false⟩,
  ⟨some 100,.ld 2 true (.t 99),none,false⟩,
  ⟨some 101,.bldS .d 2 [(.t 100)],none,false⟩,
  ⟨some 102,.app .o 2 16 (.t 96) (.t 101),none,false⟩,
  ⟨some 5,.mv (.t 102),none,false⟩],[]⟩
@[simp] def r129_13 : AReg:=⟨[0,1,5,6,7],[],[
  ⟨some 103,.mv (.t 7),none,false⟩,
  ⟨some 104,.bin .int .add (.t 103) (.c (.dat (.int .i64 1))),none,false⟩,
  ⟨some 7,.mv (.t 104),none,false⟩],[]⟩
@[simp] def r129_14 : AReg:=⟨[0,1,5,6,7],[],[
  ⟨some 18,.mv (.t 5),none,false⟩,
  ⟨some 19,.mv (.t 0),none,false⟩,
  ⟨some 20,.mv (.t 6),none,false⟩,
  ⟨some 21,.iAddr 2 (.t 19) (.t 20),none,false⟩,
  ⟨some 22,.fAddr 0 (.t 21),none,false⟩,
  ⟨some 23,.ld 1 false (.t 22),none,false⟩,
  ⟨some 24,.mv (.t 0),none,false⟩,
  ⟨some 25,.mv (.t 6),none,false⟩,
  ⟨some 26,.iAddr 2 (.t 24) (.t 25),none,false⟩,
  ⟨some 27,.fAddr 1 (.t 26),none,false⟩,
  ⟨some 28,.ld 1 false (.t 27),none,false⟩,
  ⟨some 29,.mv (.t 1),none,false⟩,
  ⟨some 30,.mv (.t 7),none,false⟩,
  ⟨some 31,.iAddr 2 (.t 29) (.t 30),none,false⟩,
  ⟨some 32,.fAddr 1 (.t 31),none,false⟩,
  ⟨some 33,.ld 1 false (.t 32),none,false⟩,
  ⟨some 34,.mm true (.t 28) [(.t 33)],none,false⟩,
  ⟨some 35,.bld [(.dat (.int .i64 0)),(.dat (.int .i64 0))] [(0,1,(.t 23)),(1,1,(.t 34))],none,false⟩,
  ⟨some 36,.bldS .d 2 [(.t 35)],none,false⟩,
  ⟨some 37,.app .o 2 16 (.t 18) (.t 36),none,false⟩,
  ⟨some 5,.mv (.t 37),none,false⟩],[]⟩
@[simp] def r129_15 : AReg:=⟨[0,1,5,6,7],[],[
  ⟨some 38,.mv (.t 6),none,false⟩,
  ⟨some 39,.bin .int .add (.t 38) (.c (.dat (.int .i64 1))),none,false⟩,
  ⟨some 6,.mv (.t 39),none,false⟩],[]⟩
@[simp] def r129_16 : AReg:=⟨[0,1,5,6,7],[],[
  ⟨some 40,.mv (.t 7),none,false⟩,
  ⟨some 41,.bin .int .add (.t 40) (.c (.dat (.int .i64 1))),none,false⟩,
  ⟨some 7,.mv (.t 41),none,false⟩],[]⟩
def l129_0 : AC:=.seq (.seq (.reg r129_3) (.cond (.t 17) (.skip) (.exit 0))) (.block 1 (.block 2 (.seq (.reg r129_4) (.cond (.t 42) (.seq (.reg r129_5) (.seq (.reg r129_6) (.reg r129_7))) (.seq (.reg r129_8) (.cond (.t 63) (.seq (.reg r129_9) (.reg r129_10)) (.seq (.reg r129_11) (.cond (.t 84) (.seq (.reg r129_12) (.reg r129_13)) (.seq (.reg r129_14) (.seq (.reg r129_15) (.reg r129_16)))))))))))
@[simp] theorem l129_0e (K : Orc) (s : St) : exec K l129_0 s = exec K (.seq (.seq (.reg r129_3) (.cond (.t 17) (.skip) (.exit 0))) (.block 1 (.block 2 (.seq (.reg r129_4) (.cond (.t 42) (.seq (.reg r129_5) (.seq (.reg r129_6) (.reg r129_7))) (.seq (.reg r129_8) (.cond (.t 63) (.seq (.reg r129_9) (.reg r129_10)) (.seq (.reg r129_11) (.cond (.t 84) (.seq (.reg r129_12) (.reg r129_13)) (.seq (.reg r129_14) (.seq (.reg r129_15) (.reg r129_16)))))))))))) s:=rfl
@[simp] def r129_17 : AReg:=⟨[0,1,5,6,7],[],[
  ⟨some 105,.mv (.t 5),none,false⟩,
  ⟨some 106,.mv (.t 0),none,false⟩,
  ⟨some 107,.mv (.t 6),none,false⟩,
  ⟨some 108,.slc false 2 (.t 106) (some (.t 107)) none,none,false⟩,
  ⟨some 109,.app .o 2 16 (.t 105) (.t 108),none,false⟩,
  ⟨some 5,.mv (.t 109),none,false⟩],[]⟩
@[simp] def r129_18 : AReg:=⟨[1,5,7],[],[
  ⟨some 110,.mv (.t 5),none,false⟩,
  ⟨some 111,.mv (.t 1),none,false⟩,
  ⟨some 112,.mv (.t 7),none,false⟩,
  ⟨some 113,.slc false 2 (.t 111) (some (.t 112)) none,none,false⟩,
  ⟨some 114,.app .o 2 16 (.t 110) (.t 113),none,false⟩,
  ⟨some 4,.mv (.t 114),none,false⟩],[]⟩
@[simp] def fn129 : AFun:=⟨2,[.t 4],false,
 .seq (.reg r129_0) (.seq (.reg r129_1) (.seq (.reg r129_2) (.seq (.block 0 (.loop l129_0)) (.seq (.reg r129_17) (.seq (.reg r129_18) (.ret)))))),none⟩
theorem c129 : cFun Tryz.prog ann129 false 129 = some fn129:=by kernel_rfl
def ann130 : Ann:=[{ id:=0,live:=[0,1] },
 { id:=1,live:=[0,1] },
 { id:=2,live:=[1,7,8,9],drop:=[7] },
 { id:=3,live:=[1,7,8,9] },
 { id:=4,live:=[1,6,7,8,9] },
 { id:=5,live:=[6] },
 { id:=6,live:=[1,7,8,9] },
 { id:=7,live:=[] }]
@[simp] def r130_0 : AReg:=⟨[0,1],[],[
  ⟨some 4,.mv (.c (.dat (.int .i64 0))),none,false⟩],[]⟩
@[simp] def r130_1 : AReg:=⟨[0,1],[],[
  ⟨some 7,.mv (.t 0),none,false⟩,
  ⟨some 8,.len false (.t 7),none,false⟩,
  ⟨some 9,.mv (.c (.dat (.int .i64 0))),none,false⟩],[]⟩
@[simp] def r130_2 : AReg:=⟨[1,7,8,9],[7],[
  ⟨some 10,.bin .int .lss (.t 9) (.t 8),none,false⟩],[]⟩
@[simp] def r130_3 : AReg:=⟨[1,7,8,9],[],[
  ⟨some 11,.iAddr 2 (.t 7) (.t 9),none,false⟩,
  ⟨some 12,.ld 2 true (.t 11),none,false⟩,
  ⟨some 6,.alc [(.dat (.int .i64 0)),(.dat (.int .i64 0))],none,false⟩,
  ⟨none,.st false 2 (.t 6) (.t 12),none,false⟩],[]⟩
@[simp] def r130_4 : AReg:=⟨[1,6,7,8,9],[],[
  ⟨some 13,.fAddr 0 (.t 6),none,false⟩,
  ⟨some 14,.ld 1 false (.t 13),none,false⟩,
  ⟨some 15,.mv (.t 1),none,false⟩,
  ⟨some 16,.bin .int .eql (.t 14) (.t 15),none,false⟩],[]⟩
@[simp] def r130_5 : AReg:=⟨[6],[],[
  ⟨some 17,.fAddr 1 (.t 6),none,false⟩,
  ⟨some 18,.ld 1 false (.t 17),none,false⟩,
  ⟨some 4,.mv (.t 18),none,false⟩],[]⟩
@[simp] def r130_6 : AReg:=⟨[1,7,8,9],[],[
  ⟨some 19,.bin .int .add (.t 9) (.c (.dat (.int .i64 1))),none,false⟩,
  ⟨some 9,.mv (.t 19),none,false⟩],[]⟩
def l130_0 : AC:=.seq (.reg r130_2) (.seq (.cond (.t 10) (.skip) (.exit 0)) (.seq (.block 1 (.seq (.reg r130_3) (.seq (.reg r130_4) (.cond (.t 16) (.seq (.reg r130_5) (.ret)) (.skip))))) (.reg r130_6)))
@[simp] theorem l130_0e (K : Orc) (s : St) : exec K l130_0 s = exec K (.seq (.reg r130_2) (.seq (.cond (.t 10) (.skip) (.exit 0)) (.seq (.block 1 (.seq (.reg r130_3) (.seq (.reg r130_4) (.cond (.t 16) (.seq (.reg r130_5) (.ret)) (.skip))))) (.reg r130_6)))) s:=rfl
@[simp] def r130_7 : AReg:=⟨[],[],[
  ⟨some 4,.mv (.c (.dat (.int .i64 0))),none,false⟩],[]⟩
@[simp] def fn130 : AFun:=⟨2,[.t 4],false,
 .seq (.reg r130_0) (.seq (.seq (.reg r130_1) (.block 0 (.loop l130_0))) (.seq (.reg r130_7) (.ret))),none⟩
theorem c130 : cFun Tryz.prog ann130 false 130 = some fn130:=by kernel_rfl
def ann131 : Ann:=[{ id:=0,live:=[0,1] },
 { id:=1,live:=[0,1],marks:=[(3,{ md:=.o })] },
 { id:=2,live:=[0,1,5] },
 { id:=3,live:=[0,1,5,6] },
 { id:=4,live:=[1,5,6,13,14,15],drop:=[5,13] },
 { id:=5,live:=[1,5,6,13,14,15] },
 { id:=6,live:=[1,5,6,8,13,14,15] },
 { id:=7,live:=[1,5,8,13,14,15] },
 { id:=8,live:=[1,5,6,8,13,14,15] },
 { id:=9,live:=[1,5,6,8,13,14,15] },
 { id:=10,live:=[1,5,6,8,13,14,15],marks:=[(4,{ md:=.o })] },
 { id:=11,live:=[1,5,6,8,13,14,15],marks:=[(3,{ md:=.o })] },
 { id:=12,live:=[1,5,6,13,14,15] },
 { id:=13,live:=[1,5,6] },
 { id:=14,live:=[1,5],marks:=[(4,{ md:=.o })] },
 { id:=15,live:=[5] }]
@[simp] def r131_0 : AReg:=⟨[0,1],[],[
  ⟨some 4,.mv (.c .nils),none,false⟩],[]⟩
@[simp] def r131_1 : AReg:=⟨[0,1],[],[
  ⟨some 9,.mv (.t 0),none,false⟩,
  ⟨some 10,.len false (.t 9),none,false⟩,
  ⟨some 11,.bin .int .add (.t 10) (.c (.dat (.int .i64 1))),none,false⟩,
  ⟨some 12,.mk .o 2 16 [(.dat (.int .i64 0)),(.dat (.int .i64 0))] (.c (.dat (.int .i64 0))) (.t 11),none,false⟩,
  ⟨some 5,.mv (.t 12),none,false⟩],[]⟩
@[simp] def r131_2 : AReg:=⟨[0,1,5],[],[
  ⟨some 6,.mv (.c (.dat (.bool false))),none,false⟩],[]⟩
@[simp] def r131_3 : AReg:=⟨[0,1,5,6],[],[
  ⟨some 13,.mv (.t 0),none,false⟩,
  ⟨some 14,.len false (.t 13),none,false⟩,
  ⟨some 15,.mv (.c (.dat (.int .i64 0))),none,false⟩],[]⟩
@[simp] def r131_4 : AReg:=⟨[1,5,6,13,14,15],[5,13],[
  ⟨some 16,.bin .int .lss (.t 15) (.t 14),none,false⟩],[]⟩
@[simp] def r131_5 : AReg:=⟨[1,5,6,13,14,15],[],[
  ⟨some 17,.iAddr 2 (.t 13) (.t 15),none,false⟩,
  ⟨some 18,.ld 2 true (.t 17),none,false⟩,
  ⟨some 8,.alc [(.dat (.int .i64 0)),(.dat (.int .i64 0))],none,false⟩,
  ⟨none,.st false 2 (.t 8) (.t 18),none,false⟩],[]⟩
@[simp] def r131_6 : AReg:=⟨[1,5,6,8,13,14,15],[],[
  ⟨some 19,.mv (.t 6),none,false⟩,
  ⟨some 20,.un .not (.t 19),none,false⟩,
  ⟨some 21,.mv (.t 20),none,false⟩,
  ⟨some 22,.fAddr 0 (.t 8),some (21,true),false⟩,
  ⟨some 23,.ld 1 false (.t 22),some (21,true),false⟩,
  ⟨some 24,.mv (.t 1),some (21,true),false⟩,
  ⟨some 25,.bin .int .geq (.t 23) (.t 24),some (21,true),false⟩,
  ⟨some 26,.pick (.t 21) (.t 25) (.c (.dat (.bool false))),none,false⟩],[]⟩
@[simp] def r131_7 : AReg:=⟨[1,5,8,13,14,15],[],[
  ⟨some 6,.mv (.c (.dat (.bool true))),none,false⟩],[]⟩
@[simp] def r131_8 : AReg:=⟨[1,5,6,8,13,14,15],[],[
  ⟨some 27,.fAddr 0 (.t 8),none,false⟩,
  ⟨some 28,.ld 1 false (.t 27),none,false⟩,
  ⟨some 29,.mv (.t 1),none,false⟩,
  ⟨some 30,.bin .int .eql (.t 28) (.t 29),none,false⟩],[]⟩
@[simp] def r131_9 : AReg:=⟨[1,5,6,8,13,14,15],[],[
  ⟨some 31,.fAddr 1 (.t 8),none,false⟩,
  ⟨some 32,.ld 1 false (.t 31),none,false⟩,
  ⟨some 33,.bin .int .add (.t 32) (.c (.dat (.int .i64 1))),none,false⟩,
  ⟨some 34,.fAddr 1 (.t 8),none,false⟩,
  ⟨none,.st false 1 (.t 34) (.t 33),none,false⟩],[]⟩
@[simp] def r131_10 : AReg:=⟨[1,5,6,8,13,14,15],[],[
  ⟨some 35,.mv (.t 5),none,false⟩,
  ⟨some 36,.mv (.t 1),none,false⟩,
  ⟨some 37,.bld [(.dat (.int .i64 0)),(.dat (.int .i64 0))] [(0,1,(.t 36)),(1,1,(.c (.dat (.int .i64 1))))],none,false⟩,
  ⟨some 38,.bldS .d 2 [(.t 37)],none,false⟩,
  ⟨some 39,.app .o 2 16 (.t 35) (.t 38),none,false⟩,
  ⟨some 5,.mv (.t 39),none,false⟩],[]⟩
@[simp] def r131_11 : AReg:=⟨[1,5,6,8,13,14,15],[],[
  ⟨some 40,.mv (.t 5),none,false⟩,
  ⟨some 41,.ld 2 true (.t 8),none,false⟩,
  ⟨some 42,.bldS .d 2 [(.t 41)],none,false⟩,
  ⟨some 43,.app .o 2 16 (.t 40) (.t 42),none,false⟩,
  ⟨some 5,.mv (.t 43),none,false⟩],[]⟩
@[simp] def r131_12 : AReg:=⟨[1,5,6,13,14,15],[],[
  ⟨some 44,.bin .int .add (.t 15) (.c (.dat (.int .i64 1))),none,false⟩,
  ⟨some 15,.mv (.t 44),none,false⟩],[]⟩
def l131_0 : AC:=.seq (.reg r131_4) (.seq (.cond (.t 16) (.skip) (.exit 0)) (.seq (.block 1 (.seq (.reg r131_5) (.seq (.seq (.reg r131_6) (.cond (.t 26) (.seq (.reg r131_7) (.seq (.reg r131_8) (.cond (.t 30) (.reg r131_9) (.reg r131_10)))) (.skip))) (.reg r131_11)))) (.reg r131_12)))
@[simp] theorem l131_0e (K : Orc) (s : St) : exec K l131_0 s = exec K (.seq (.reg r131_4) (.seq (.cond (.t 16) (.skip) (.exit 0)) (.seq (.block 1 (.seq (.reg r131_5) (.seq (.seq (.reg r131_6) (.cond (.t 26) (.seq (.reg r131_7) (.seq (.reg r131_8) (.cond (.t 30) (.reg r131_9) (.reg r131_10)))) (.skip))) (.reg r131_11)))) (.reg r131_12)))) s:=rfl
@[simp] def r131_13 : AReg:=⟨[1,5,6],[],[
  ⟨some 45,.mv (.t 6),none,false⟩,
  ⟨some 46,.un .not (.t 45),none,false⟩],[]⟩
@[simp] def r131_14 : AReg:=⟨[1,5],[],[
  ⟨some 47,.mv (.t 5),none,false⟩,
  ⟨some 48,.mv (.t 1),none,false⟩,
  ⟨some 49,.bld [(.dat (.int .i64 0)),(.dat (.int .i64 0))] [(0,1,(.t 48)),(1,1,(.c (.dat (.int .i64 1))))],none,false⟩,
  ⟨some 50,.bldS .d 2 [(.t 49)],none,false⟩,
  ⟨some 51,.app .o 2 16 (.t 47) (.t 50),none,false⟩,
  ⟨some 5,.mv (.t 51),none,false⟩],[]⟩
@[simp] def r131_15 : AReg:=⟨[5],[],[
  ⟨some 52,.mv (.t 5),none,false⟩,
  ⟨some 4,.mv (.t 52),none,false⟩],[]⟩
@[simp] def fn131 : AFun:=⟨2,[.t 4],false,
 .seq (.reg r131_0) (.seq (.reg r131_1) (.seq (.reg r131_2) (.seq (.seq (.reg r131_3) (.block 0 (.loop l131_0))) (.seq (.seq (.reg r131_13) (.cond (.t 46) (.reg r131_14) (.skip))) (.seq (.reg r131_15) (.ret)))))),none⟩
theorem c131 : cFun Tryz.prog ann131 false 131 = some fn131:=by kernel_rfl
def ann132 : Ann:=[{ id:=0,live:=[0] },
 { id:=1,live:=[1] },
 { id:=2,live:=[1] },
 { id:=3,live:=[1] }]
@[simp] def r132_0 : AReg:=⟨[0],[],[
  ⟨some 1,.box 9 (.t 0),none,false⟩,
  ⟨some 2,.mv (.c (.dat (.int .i64 0))),none,false⟩],[]⟩
@[simp] def r132_1 : AReg:=⟨[1],[],[
  ⟨some 3,.fAddr 2 (.t 1),none,false⟩,
  ⟨some 4,.ld 1 false (.t 3),none,false⟩,
  ⟨some 5,.bin .int .eql (.t 4) (.c (.dat (.int .i64 9))),none,false⟩,
  ⟨some 6,.mv (.t 5),none,false⟩,
  ⟨some 7,.fAddr 2 (.t 1),some (6,false),false⟩,
  ⟨some 8,.ld 1 false (.t 7),some (6,false),false⟩,
  ⟨some 9,.bin .int .eql (.t 8) (.c (.dat (.int .i64 10))),some (6,false),false⟩,
  ⟨some 10,.pick (.t 6) (.c (.dat (.bool true))) (.t 9),none,false⟩,
  ⟨some 11,.mv (.t 10),none,false⟩,
  ⟨some 12,.fAddr 2 (.t 1),some (11,false),false⟩,
  ⟨some 13,.ld 1 false (.t 12),some (11,false),false⟩,
  ⟨some 14,.bin .int .eql (.t 13) (.c (.dat (.int .i64 11))),some (11,false),false⟩,
  ⟨some 15,.pick (.t 11) (.c (.dat (.bool true))) (.t 14),none,false⟩],[]⟩
@[simp] def r132_2 : AReg:=⟨[1],[],[
  ⟨some 16,.fAddr 3 (.t 1),none,false⟩,
  ⟨some 17,.ld 1 false (.t 16),none,false⟩,
  ⟨some 2,.mv (.t 17),none,false⟩],[]⟩
@[simp] def r132_3 : AReg:=⟨[1],[],[
  ⟨some 18,.fAddr 4 (.t 1),none,false⟩,
  ⟨some 19,.ld 1 false (.t 18),none,false⟩,
  ⟨some 2,.mv (.t 19),none,false⟩],[]⟩
@[simp] def fn132 : AFun:=⟨1,[.t 2],false,
 .seq (.reg r132_0) (.seq (.seq (.reg r132_1) (.cond (.t 15) (.seq (.reg r132_2) (.ret)) (.skip))) (.seq (.reg r132_3) (.ret))),none⟩
theorem c132 : cFun Tryz.prog ann132 false 132 = some fn132:=by kernel_rfl
def ann133 : Ann:=[{ id:=0,live:=[0] },
 { id:=1,live:=[1] },
 { id:=2,live:=[1] },
 { id:=3,live:=[] }]
@[simp] def r133_0 : AReg:=⟨[0],[],[
  ⟨some 1,.box 9 (.t 0),none,false⟩,
  ⟨some 2,.mv (.c (.dat (.int .i64 0))),none,false⟩],[]⟩
@[simp] def r133_1 : AReg:=⟨[1],[],[
  ⟨some 3,.fAddr 2 (.t 1),none,false⟩,
  ⟨some 4,.ld 1 false (.t 3),none,false⟩,
  ⟨some 5,.bin .int .eql (.t 4) (.c (.dat (.int .i64 12))),none,false⟩,
  ⟨some 6,.mv (.t 5),none,false⟩,
  ⟨some 7,.fAddr 2 (.t 1),some (6,false),false⟩,
  ⟨some 8,.ld 1 false (.t 7),some (6,false),false⟩,
  ⟨some 9,.bin .int .eql (.t 8) (.c (.dat (.int .i64 13))),some (6,false),false⟩,
  ⟨some 10,.pick (.t 6) (.c (.dat (.bool true))) (.t 9),none,false⟩,
  ⟨some 11,.mv (.t 10),none,false⟩,
  ⟨some 12,.fAddr 2 (.t 1),some (11,false),false⟩,
  ⟨some 13,.ld 1 false (.t 12),some (11,false),false⟩,
  ⟨some 14,.bin .int .eql (.t 13) (.c (.dat (.int .i64 14))),some (11,false),false⟩,
  ⟨some 15,.pick (.t 11) (.c (.dat (.bool true))) (.t 14),none,false⟩,
  ⟨some 16,.mv (.t 15),none,false⟩,
  ⟨some 17,.fAddr 2 (.t 1),some (16,false),false⟩,
  ⟨some 18,.ld 1 false (.t 17),some (16,false),false⟩,
  ⟨some 19,.bin .int .eql (.t 18) (.c (.dat (.int .i64 15))),some (16,false),false⟩,
  ⟨some 20,.pick (.t 16) (.c (.dat (.bool true))) (.t 19),none,false⟩],[]⟩
@[simp] def r133_2 : AReg:=⟨[1],[],[
  ⟨some 21,.fAddr 3 (.t 1),none,false⟩,
  ⟨some 22,.ld 1 false (.t 21),none,false⟩,
  ⟨some 2,.mv (.t 22),none,false⟩],[]⟩
@[simp] def r133_3 : AReg:=⟨[],[],[
  ⟨some 2,.mv (.c (.dat (.int .i64 (-1)))),none,false⟩],[]⟩
@[simp] def fn133 : AFun:=⟨1,[.t 2],false,
 .seq (.reg r133_0) (.seq (.seq (.reg r133_1) (.cond (.t 20) (.seq (.reg r133_2) (.ret)) (.skip))) (.seq (.reg r133_3) (.ret))),none⟩
theorem c133 : cFun Tryz.prog ann133 false 133 = some fn133:=by kernel_rfl
def ann134 : Ann:=[{ id:=0,live:=[0] },
 { id:=1,live:=[0] },
 { id:=2,live:=[] },
 { id:=3,live:=[0] }]
@[simp] def r134_0 : AReg:=⟨[0],[],[
  ⟨some 2,.mv (.c (.dat (.int .i64 0))),none,false⟩],[]⟩
@[simp] def r134_1 : AReg:=⟨[0],[],[
  ⟨some 3,.mv (.t 0),none,false⟩,
  ⟨some 4,.bin .int .lss (.t 3) (.c (.dat (.int .i64 0))),none,false⟩],[]⟩
@[simp] def r134_2 : AReg:=⟨[],[],[
  ⟨some 2,.mv (.c (.dat (.int .i64 0))),none,false⟩],[]⟩
@[simp] def r134_3 : AReg:=⟨[0],[],[
  ⟨some 5,.mv (.t 0),none,false⟩,
  ⟨some 6,.un .neg (.t 5),none,false⟩,
  ⟨some 7,.bin .int .sub (.t 6) (.c (.dat (.int .i64 1))),none,false⟩,
  ⟨some 2,.mv (.t 7),none,false⟩],[]⟩
@[simp] def fn134 : AFun:=⟨1,[.t 2],false,
 .seq (.reg r134_0) (.seq (.seq (.reg r134_1) (.cond (.t 4) (.seq (.reg r134_2) (.ret)) (.skip))) (.seq (.reg r134_3) (.ret))),none⟩
theorem c134 : cFun Tryz.prog ann134 false 134 = some fn134:=by kernel_rfl
def ann135 : Ann:=[{ id:=0,live:=[0,1,2,3] },
 { id:=1,live:=[0,1,2,3] },
 { id:=2,live:=[] },
 { id:=3,live:=[0,1,2,3] },
 { id:=4,live:=[0,1,2,9] },
 { id:=5,live:=[0,1,2,9] },
 { id:=6,live:=[] },
 { id:=7,live:=[0,1,2,9] },
 { id:=8,live:=[] },
 { id:=9,live:=[0,1,2,9] },
 { id:=10,live:=[] }]
@[simp] def r135_0 : AReg:=⟨[0,1,2,3],[],[
  ⟨some 8,.mv (.c (.dat (.bool false))),none,false⟩],[]⟩
@[simp] def r135_1 : AReg:=⟨[0,1,2,3],[],[
  ⟨some 10,.mv (.t 0),none,false⟩,
  ⟨some 11,.mv (.t 2),none,false⟩,
  ⟨some 12,.iAddr 9 (.t 10) (.t 11),none,false⟩,
  ⟨some 13,.ld 9 true (.t 12),none,false⟩,
  ⟨some 14,.call 68 [((.t 13),false)] true,none,false⟩,
  ⟨some 15,.un .not (.t 14),none,false⟩,
  ⟨some 16,.mv (.t 15),none,false⟩,
  ⟨some 17,.mv (.t 0),some (16,false),false⟩,
  ⟨some 18,.mv (.t 2),some (16,false),false⟩,
  ⟨some 19,.iAddr 9 (.t 17) (.t 18),some (16,false),false⟩,
  ⟨some 20,.fAddr 6 (.t 19),some (16,false),false⟩,
  ⟨some 21,.ld 1 false (.t 20),some (16,false),false⟩,
  ⟨some 22,.bin .int .neq (.t 21) (.c (.dat (.int .i64 2))),some (16,false),false⟩,
  ⟨some 23,.pick (.t 16) (.c (.dat (.bool true))) (.t 22),none,false⟩,
  ⟨some 24,.mv (.t 23),none,false⟩,
  ⟨some 25,.mv (.t 0),some (24,false),false⟩,
  ⟨some 26,.mv (.t 3),some (24,false),false⟩,
  ⟨some 27,.iAddr 9 (.t 25) (.t 26),some (24,false),false⟩,
  ⟨some 28,.ld 9 true (.t 27),some (24,false),false⟩,
  ⟨some 29,.call 78 [((.t 28),false)] true,some (24,false),false⟩,
  ⟨some 30,.un .not (.t 29),some (24,false),false⟩,
  ⟨some 31,.pick (.t 24) (.c (.dat (.bool true))) (.t 30),none,false⟩,
  ⟨some 32,.mv (.t 31),none,false⟩,
  ⟨some 33,.mv (.t 0),some (32,false),false⟩,
  ⟨some 34,.mv (.t 3),some (32,false),false⟩,
  ⟨some 35,.iAddr 9 (.t 33) (.t 34),some (32,false),false⟩,
  ⟨some 36,.fAddr 6 (.t 35),some (32,false),false⟩,
  ⟨some 37,.ld 1 false (.t 36),some (32,false),false⟩,
  ⟨some 38,.bin .int .neq (.t 37) (.c (.dat (.int .i64 2))),some (32,false),false⟩,
  ⟨some 39,.pick (.t 32) (.c (.dat (.bool true))) (.t 38),none,false⟩],[]⟩
@[simp] def r135_2 : AReg:=⟨[],[],[
  ⟨some 8,.mv (.c (.dat (.bool false))),none,false⟩],[]⟩
@[simp] def r135_3 : AReg:=⟨[0,1,2,3],[],[
  ⟨some 40,.mv (.t 1),none,false⟩,
  ⟨some 41,.mv (.t 3),none,false⟩,
  ⟨some 42,.iAddr 1 (.t 40) (.t 41),none,false⟩,
  ⟨some 43,.ld 1 false (.t 42),none,false⟩,
  ⟨some 9,.mv (.t 43),none,false⟩],[]⟩
@[simp] def r135_4 : AReg:=⟨[0,1,2,9],[],[
  ⟨some 44,.mv (.t 9),none,false⟩,
  ⟨some 45,.bin .int .geq (.t 44) (.c (.dat (.int .i64 0))),none,false⟩],[]⟩
@[simp] def r135_5 : AReg:=⟨[0,1,2,9],[],[
  ⟨some 46,.mv (.t 9),none,false⟩,
  ⟨some 47,.mv (.t 2),none,false⟩,
  ⟨some 48,.bin .int .eql (.t 46) (.t 47),none,false⟩],[]⟩
@[simp] def r135_6 : AReg:=⟨[],[],[
  ⟨some 8,.mv (.c (.dat (.bool true))),none,false⟩],[]⟩
@[simp] def r135_7 : AReg:=⟨[0,1,2,9],[],[
  ⟨some 49,.mv (.t 0),none,false⟩,
  ⟨some 50,.mv (.t 9),none,false⟩,
  ⟨some 51,.iAddr 9 (.t 49) (.t 50),none,false⟩,
  ⟨some 52,.fAddr 2 (.t 51),none,false⟩,
  ⟨some 53,.ld 1 false (.t 52),none,false⟩,
  ⟨some 54,.bin .int .neq (.t 53) (.c (.dat (.int .i64 5))),none,false⟩],[]⟩
@[simp] def r135_8 : AReg:=⟨[],[],[
  ⟨some 8,.mv (.c (.dat (.bool false))),none,false⟩],[]⟩
@[simp] def r135_9 : AReg:=⟨[0,1,2,9],[],[
  ⟨some 55,.mv (.t 1),none,false⟩,
  ⟨some 56,.mv (.t 9),none,false⟩,
  ⟨some 57,.iAddr 1 (.t 55) (.t 56),none,false⟩,
  ⟨some 58,.ld 1 false (.t 57),none,false⟩,
  ⟨some 9,.mv (.t 58),none,false⟩],[]⟩
def l135_0 : AC:=.seq (.seq (.reg r135_4) (.cond (.t 45) (.skip) (.exit 0))) (.block 1 (.seq (.seq (.reg r135_5) (.cond (.t 48) (.seq (.reg r135_6) (.ret)) (.skip))) (.seq (.seq (.reg r135_7) (.cond (.t 54) (.seq (.reg r135_8) (.ret)) (.skip))) (.reg r135_9))))
@[simp] theorem l135_0e (K : Orc) (s : St) : exec K l135_0 s = exec K (.seq (.seq (.reg r135_4) (.cond (.t 45) (.skip) (.exit 0))) (.block 1 (.seq (.seq (.reg r135_5) (.cond (.t 48) (.seq (.reg r135_6) (.ret)) (.skip))) (.seq (.seq (.reg r135_7) (.cond (.t 54) (.seq (.reg r135_8) (.ret)) (.skip))) (.reg r135_9))))) s:=rfl
@[simp] def r135_10 : AReg:=⟨[],[],[
  ⟨some 8,.mv (.c (.dat (.bool false))),none,false⟩],[]⟩
@[simp] def fn135 : AFun:=⟨4,[.t 8],false,
 .seq (.reg r135_0) (.seq (.seq (.reg r135_1) (.cond (.t 39) (.seq (.reg r135_2) (.ret)) (.skip))) (.seq (.reg r135_3) (.seq (.block 0 (.loop l135_0)) (.seq (.reg r135_10) (.ret))))),none⟩
theorem c135 : cFun Tryz.prog ann135 false 135 = some fn135:=by kernel_rfl
end Go.Am.W
