/- Parts of the proofs of the statement, joined and made short: WCode1. -/
import Derived.Test.YtgaeajfoiigbkaaGreatDoorP2
set_option linter.unusedVariables false
set_option linter.unusedSimpArgs false
set_option linter.unusedSectionVars false
namespace Go.Am.W
open Go.Proofs
def ann5 : Ann:=[{ id:=0,live:=[0] },
 { id:=1,live:=[0] },
 { id:=2,live:=[] },
 { id:=3,live:=[0] }]
@[simp] def r5_0 : AReg:=⟨[0],[],[
  ⟨some 2,.mv (.c (.dat (.bool false))),none,false⟩],[]⟩
@[simp] def r5_1 : AReg:=⟨[0],[],[
  ⟨some 3,.mv (.t 0),none,false⟩,
  ⟨some 4,.len false (.t 3),none,false⟩,
  ⟨some 5,.bin .int .gtr (.t 4) (.c (.dat (.int .i64 50))),none,false⟩],[]⟩
@[simp] def r5_2 : AReg:=⟨[],[],[
  ⟨some 6,.call 15 [] true,none,false⟩,
  ⟨some 2,.mv (.t 6),none,false⟩],[]⟩
@[simp] def r5_3 : AReg:=⟨[0],[],[
  ⟨some 7,.call 15 [] true,none,false⟩,
  ⟨some 8,.mv (.t 7),none,false⟩,
  ⟨some 9,.mv (.t 0),some (8,true),false⟩,
  ⟨some 10,.call 20 [((.t 9),false)] false,some (8,true),false⟩,
  ⟨some 11,.mv (.t 0),some (8,true),false⟩,
  ⟨some 12,.call 21 [((.t 11),false)] false,some (8,true),false⟩,
  ⟨some 13,.call 19 [((.t 10),false),((.t 12),false)] true,some (8,true),false⟩,
  ⟨some 14,.pick (.t 8) (.t 13) (.c (.dat (.bool false))),none,false⟩,
  ⟨some 15,.mv (.t 14),none,false⟩,
  ⟨some 16,.mv (.t 0),some (15,true),false⟩,
  ⟨some 17,.call 23 [((.t 16),false)] false,some (15,true),false⟩,
  ⟨some 18,.mv (.t 0),some (15,true),false⟩,
  ⟨some 19,.call 24 [((.t 18),false)] false,some (15,true),false⟩,
  ⟨some 20,.call 22 [((.t 17),false),((.t 19),false)] true,some (15,true),false⟩,
  ⟨some 21,.pick (.t 15) (.t 20) (.c (.dat (.bool false))),none,false⟩,
  ⟨some 2,.mv (.t 21),none,false⟩],[]⟩
@[simp] def fn5 : AFun:=⟨1,[.t 2],false,
 .seq (.reg r5_0) (.seq (.seq (.reg r5_1) (.cond (.t 5) (.seq (.reg r5_2) (.ret)) (.skip))) (.seq (.reg r5_3) (.ret))),none⟩
theorem c5 : cFun Tryz.prog ann5 false 5 = some fn5:=by kernel_rfl
def ann19 : Ann:=[{ id:=0,live:=[0,1] },
 { id:=1,live:=[0,1] },
 { id:=2,live:=[] },
 { id:=3,live:=[0,1] },
 { id:=4,live:=[0,1,5] },
 { id:=6,live:=[0,1,5] },
 { id:=7,live:=[] },
 { id:=5,live:=[0,1,5] },
 { id:=8,live:=[] }]
@[simp] def r19_0 : AReg:=⟨[0,1],[],[
  ⟨some 4,.mv (.c (.dat (.bool false))),none,false⟩],[]⟩
@[simp] def r19_1 : AReg:=⟨[0,1],[],[
  ⟨some 6,.mv (.t 0),none,false⟩,
  ⟨some 7,.len false (.t 6),none,false⟩,
  ⟨some 8,.mv (.t 1),none,false⟩,
  ⟨some 9,.len false (.t 8),none,false⟩,
  ⟨some 10,.bin .int .neq (.t 7) (.t 9),none,false⟩],[]⟩
@[simp] def r19_2 : AReg:=⟨[],[],[
  ⟨some 4,.mv (.c (.dat (.bool false))),none,false⟩],[]⟩
@[simp] def r19_3 : AReg:=⟨[0,1],[],[
  ⟨some 5,.mv (.c (.dat (.int .i64 0))),none,false⟩],[]⟩
@[simp] def r19_4 : AReg:=⟨[0,1,5],[],[
  ⟨some 11,.mv (.t 5),none,false⟩,
  ⟨some 12,.mv (.t 0),none,false⟩,
  ⟨some 13,.len false (.t 12),none,false⟩,
  ⟨some 14,.bin .int .lss (.t 11) (.t 13),none,false⟩],[]⟩
@[simp] def r19_5 : AReg:=⟨[0,1,5],[],[
  ⟨some 17,.mv (.t 0),none,false⟩,
  ⟨some 18,.mv (.t 5),none,false⟩,
  ⟨some 19,.iAddr 1 (.t 17) (.t 18),none,false⟩,
  ⟨some 20,.ld 1 false (.t 19),none,false⟩,
  ⟨some 21,.mv (.t 1),none,false⟩,
  ⟨some 22,.mv (.t 5),none,false⟩,
  ⟨some 23,.iAddr 1 (.t 21) (.t 22),none,false⟩,
  ⟨some 24,.ld 1 false (.t 23),none,false⟩,
  ⟨some 25,.bin .int .neq (.t 20) (.t 24),none,false⟩],[]⟩
@[simp] def r19_6 : AReg:=⟨[],[],[
  ⟨some 4,.mv (.c (.dat (.bool false))),none,false⟩],[]⟩
@[simp] def r19_7 : AReg:=⟨[0,1,5],[],[
  ⟨some 15,.mv (.t 5),none,false⟩,
  ⟨some 16,.bin .int .add (.t 15) (.c (.dat (.int .i64 1))),none,false⟩,
  ⟨some 5,.mv (.t 16),none,false⟩],[]⟩
def l19_0 : AC:=.seq (.seq (.reg r19_4) (.cond (.t 14) (.skip) (.exit 0))) (.seq (.block 1 (.seq (.reg r19_5) (.cond (.t 25) (.seq (.reg r19_6) (.ret)) (.skip)))) (.reg r19_7))
@[simp] theorem l19_0e (K : Orc) (s : St) : exec K l19_0 s = exec K (.seq (.seq (.reg r19_4) (.cond (.t 14) (.skip) (.exit 0))) (.seq (.block 1 (.seq (.reg r19_5) (.cond (.t 25) (.seq (.reg r19_6) (.ret)) (.skip)))) (.reg r19_7))) s:=rfl
@[simp] def r19_8 : AReg:=⟨[],[],[
  ⟨some 4,.mv (.c (.dat (.bool true))),none,false⟩],[]⟩
@[simp] def fn19 : AFun:=⟨2,[.t 4],false,
 .seq (.reg r19_0) (.seq (.seq (.reg r19_1) (.cond (.t 10) (.seq (.reg r19_2) (.ret)) (.skip))) (.seq (.seq (.reg r19_3) (.block 0 (.loop l19_0))) (.seq (.reg r19_8) (.ret)))),none⟩
theorem c19 : cFun Tryz.prog ann19 false 19 = some fn19:=by kernel_rfl
def ann20 : Ann:=[{ id:=0,live:=[0] },
 { id:=1,live:=[0] },
 { id:=2,live:=[] },
 { id:=3,live:=[0],marks:=[(0,{ md:=.o })] },
 { id:=4,live:=[0,3] },
 { id:=5,live:=[0,3,9,10],drop:=[0,3] },
 { id:=6,live:=[0,3,9,10] },
 { id:=7,live:=[0,3,4,9,10],marks:=[(5,{ md:=.o })] },
 { id:=8,live:=[0,3,9,10] },
 { id:=9,live:=[3] }]
@[simp] def r20_0 : AReg:=⟨[0],[],[
  ⟨some 2,.mv (.c .nils),none,false⟩],[]⟩
@[simp] def r20_1 : AReg:=⟨[0],[],[
  ⟨some 5,.mv (.t 0),none,false⟩,
  ⟨some 6,.call 40 [((.t 5),false)] true,none,false⟩,
  ⟨some 7,.un .not (.t 6),none,false⟩],[]⟩
@[simp] def r20_2 : AReg:=⟨[],[],[
  ⟨some 2,.mv (.c .nils),none,false⟩],[]⟩
@[simp] def r20_3 : AReg:=⟨[0],[],[
  ⟨some 3,.mvNil .o 1,none,false⟩],[]⟩
@[simp] def r20_4 : AReg:=⟨[0,3],[],[
  ⟨some 8,.mv (.t 0),none,false⟩,
  ⟨some 9,.len false (.t 8),none,false⟩,
  ⟨some 10,.mv (.c (.dat (.int .i64 0))),none,false⟩],[]⟩
@[simp] def r20_5 : AReg:=⟨[0,3,9,10],[0,3],[
  ⟨some 11,.bin .int .lss (.t 10) (.t 9),none,false⟩],[]⟩
@[simp] def r20_6 : AReg:=⟨[0,3,9,10],[],[
  ⟨some 12,.mv (.t 10),none,false⟩,
  ⟨some 4,.mv (.t 12),none,false⟩],[]⟩
@[simp] def r20_7 : AReg:=⟨[0,3,4,9,10],[],[
  ⟨some 13,.mv (.t 3),none,false⟩,
  ⟨some 14,.mv (.t 0),none,false⟩,
  ⟨some 15,.mv (.t 4),none,false⟩,
  ⟨some 16,.call 41 [((.t 14),false),((.t 15),false)] true,none,false⟩,
  ⟨some 17,.bldS .d 1 [(.t 16)],none,false⟩,
  ⟨some 18,.app .o 1 8 (.t 13) (.t 17),none,false⟩,
  ⟨some 3,.mv (.t 18),none,false⟩],[]⟩
@[simp] def r20_8 : AReg:=⟨[0,3,9,10],[],[
  ⟨some 19,.bin .int .add (.t 10) (.c (.dat (.int .i64 1))),none,false⟩,
  ⟨some 10,.mv (.t 19),none,false⟩],[]⟩
def l20_0 : AC:=.seq (.reg r20_5) (.seq (.cond (.t 11) (.skip) (.exit 0)) (.seq (.block 1 (.seq (.reg r20_6) (.reg r20_7))) (.reg r20_8)))
@[simp] theorem l20_0e (K : Orc) (s : St) : exec K l20_0 s = exec K (.seq (.reg r20_5) (.seq (.cond (.t 11) (.skip) (.exit 0)) (.seq (.block 1 (.seq (.reg r20_6) (.reg r20_7))) (.reg r20_8)))) s:=rfl
@[simp] def r20_9 : AReg:=⟨[3],[],[
  ⟨some 20,.mv (.t 3),none,false⟩,
  ⟨some 2,.mv (.t 20),none,false⟩],[]⟩
@[simp] def fn20 : AFun:=⟨1,[.t 2],false,
 .seq (.reg r20_0) (.seq (.seq (.reg r20_1) (.cond (.t 7) (.seq (.reg r20_2) (.ret)) (.skip))) (.seq (.reg r20_3) (.seq (.seq (.reg r20_4) (.block 0 (.loop l20_0))) (.seq (.reg r20_9) (.ret))))),none⟩
theorem c20 : cFun Tryz.prog ann20 false 20 = some fn20:=by kernel_rfl
def ann21 : Ann:=[{ id:=0,live:=[0] },
 { id:=1,live:=[0],marks:=[(0,{ md:=.o })] },
 { id:=2,live:=[0,3] },
 { id:=3,live:=[0,3,4],drop:=[0,3] },
 { id:=5,live:=[0,3,4],marks:=[(5,{ md:=.o })] },
 { id:=4,live:=[0,3,4] },
 { id:=6,live:=[3] }]
@[simp] def r21_0 : AReg:=⟨[0],[],[
  ⟨some 2,.mv (.c .nils),none,false⟩],[]⟩
@[simp] def r21_1 : AReg:=⟨[0],[],[
  ⟨some 5,.bldS .o 1 [],none,false⟩,
  ⟨some 3,.mv (.t 5),none,false⟩],[]⟩
@[simp] def r21_2 : AReg:=⟨[0,3],[],[
  ⟨some 4,.mv (.c (.dat (.int .i64 0))),none,false⟩],[]⟩
@[simp] def r21_3 : AReg:=⟨[0,3,4],[0,3],[
  ⟨some 6,.mv (.t 4),none,false⟩,
  ⟨some 7,.mv (.t 0),none,false⟩,
  ⟨some 8,.len false (.t 7),none,false⟩,
  ⟨some 9,.bin .int .lss (.t 6) (.t 8),none,false⟩,
  ⟨some 10,.mv (.t 9),none,false⟩,
  ⟨some 11,.mv (.t 0),some (10,true),false⟩,
  ⟨some 12,.call 42 [((.t 11),false)] true,some (10,true),false⟩,
  ⟨some 13,.pick (.t 10) (.t 12) (.c (.dat (.bool false))),none,false⟩],[]⟩
@[simp] def r21_4 : AReg:=⟨[0,3,4],[],[
  ⟨some 16,.mv (.t 3),none,false⟩,
  ⟨some 17,.mv (.t 0),none,false⟩,
  ⟨some 18,.mv (.t 4),none,false⟩,
  ⟨some 19,.call 43 [((.t 17),false),((.t 18),false)] true,none,false⟩,
  ⟨some 20,.bldS .d 1 [(.t 19)],none,false⟩,
  ⟨some 21,.app .o 1 8 (.t 16) (.t 20),none,false⟩,
  ⟨some 3,.mv (.t 21),none,false⟩],[]⟩
@[simp] def r21_5 : AReg:=⟨[0,3,4],[],[
  ⟨some 14,.mv (.t 4),none,false⟩,
  ⟨some 15,.bin .int .add (.t 14) (.c (.dat (.int .i64 1))),none,false⟩,
  ⟨some 4,.mv (.t 15),none,false⟩],[]⟩
def l21_0 : AC:=.seq (.seq (.reg r21_3) (.cond (.t 13) (.skip) (.exit 0))) (.seq (.block 1 (.reg r21_4)) (.reg r21_5))
@[simp] theorem l21_0e (K : Orc) (s : St) : exec K l21_0 s = exec K (.seq (.seq (.reg r21_3) (.cond (.t 13) (.skip) (.exit 0))) (.seq (.block 1 (.reg r21_4)) (.reg r21_5))) s:=rfl
@[simp] def r21_6 : AReg:=⟨[3],[],[
  ⟨some 22,.mv (.t 3),none,false⟩,
  ⟨some 2,.mv (.t 22),none,false⟩],[]⟩
@[simp] def fn21 : AFun:=⟨1,[.t 2],false,
 .seq (.reg r21_0) (.seq (.reg r21_1) (.seq (.seq (.reg r21_2) (.block 0 (.loop l21_0))) (.seq (.reg r21_6) (.ret)))),none⟩
theorem c21 : cFun Tryz.prog ann21 false 21 = some fn21:=by kernel_rfl
def ann22 : Ann:=[{ id:=0,live:=[0,1] },
 { id:=1,live:=[0,1] },
 { id:=2,live:=[] },
 { id:=3,live:=[0,1] },
 { id:=4,live:=[0,1,5] },
 { id:=6,live:=[0,1,5] },
 { id:=7,live:=[] },
 { id:=5,live:=[0,1,5] },
 { id:=8,live:=[] }]
@[simp] def r22_0 : AReg:=⟨[0,1],[],[
  ⟨some 4,.mv (.c (.dat (.bool false))),none,false⟩],[]⟩
@[simp] def r22_1 : AReg:=⟨[0,1],[],[
  ⟨some 6,.mv (.t 0),none,false⟩,
  ⟨some 7,.len false (.t 6),none,false⟩,
  ⟨some 8,.mv (.t 1),none,false⟩,
  ⟨some 9,.len false (.t 8),none,false⟩,
  ⟨some 10,.bin .int .neq (.t 7) (.t 9),none,false⟩],[]⟩
@[simp] def r22_2 : AReg:=⟨[],[],[
  ⟨some 4,.mv (.c (.dat (.bool false))),none,false⟩],[]⟩
@[simp] def r22_3 : AReg:=⟨[0,1],[],[
  ⟨some 5,.mv (.c (.dat (.int .i64 0))),none,false⟩],[]⟩
@[simp] def r22_4 : AReg:=⟨[0,1,5],[],[
  ⟨some 11,.mv (.t 5),none,false⟩,
  ⟨some 12,.mv (.t 0),none,false⟩,
  ⟨some 13,.len false (.t 12),none,false⟩,
  ⟨some 14,.bin .int .lss (.t 11) (.t 13),none,false⟩],[]⟩
@[simp] def r22_5 : AReg:=⟨[0,1,5],[],[
  ⟨some 17,.mv (.t 0),none,false⟩,
  ⟨some 18,.mv (.t 5),none,false⟩,
  ⟨some 19,.iAddr 1 (.t 17) (.t 18),none,false⟩,
  ⟨some 20,.ld 1 false (.t 19),none,false⟩,
  ⟨some 21,.len false (.t 20),none,false⟩,
  ⟨some 22,.mv (.t 1),none,false⟩,
  ⟨some 23,.mv (.t 5),none,false⟩,
  ⟨some 24,.iAddr 1 (.t 22) (.t 23),none,false⟩,
  ⟨some 25,.ld 1 false (.t 24),none,false⟩,
  ⟨some 26,.len false (.t 25),none,false⟩,
  ⟨some 27,.bin .int .neq (.t 21) (.t 26),none,false⟩,
  ⟨some 28,.mv (.t 27),none,false⟩,
  ⟨some 29,.mv (.t 0),some (28,false),false⟩,
  ⟨some 30,.mv (.t 5),some (28,false),false⟩,
  ⟨some 31,.iAddr 1 (.t 29) (.t 30),some (28,false),false⟩,
  ⟨some 32,.ld 1 false (.t 31),some (28,false),false⟩,
  ⟨some 33,.mv (.t 1),some (28,false),false⟩,
  ⟨some 34,.mv (.t 5),some (28,false),false⟩,
  ⟨some 35,.iAddr 1 (.t 33) (.t 34),some (28,false),false⟩,
  ⟨some 36,.ld 1 false (.t 35),some (28,false),false⟩,
  ⟨some 37,.call 44 [((.t 32),false),((.t 36),false)] true,some (28,false),false⟩,
  ⟨some 38,.un .not (.t 37),some (28,false),false⟩,
  ⟨some 39,.pick (.t 28) (.c (.dat (.bool true))) (.t 38),none,false⟩,
  ⟨some 40,.mv (.t 39),none,false⟩,
  ⟨some 41,.mv (.t 1),some (40,false),false⟩,
  ⟨some 42,.mv (.t 5),some (40,false),false⟩,
  ⟨some 43,.iAddr 1 (.t 41) (.t 42),some (40,false),false⟩,
  ⟨some 44,.ld 1 false (.t 43),some (40,false),false⟩,
  ⟨some 45,.mv (.t 0),some (40,false),false⟩,
  ⟨some 46,.mv (.t 5),some (40,false),false⟩,
  ⟨some 47,.iAddr 1 (.t 45) (.t 46),some (40,false),false⟩,
  ⟨some 48,.ld 1 false (.t 47),some (40,false),false⟩,
  ⟨some 49,.call 44 [((.t 44),false),((.t 48),false)] true,some (40,false),false⟩,
  ⟨some 50,.un .not (.t 49),some (40,false),false⟩,
  ⟨some 51,.pick (.t 40) (.c (.dat (.bool true))) (.t 50),none,false⟩],[]⟩
@[simp] def r22_6 : AReg:=⟨[],[],[
  ⟨some 4,.mv (.c (.dat (.bool false))),none,false⟩],[]⟩
@[simp] def r22_7 : AReg:=⟨[0,1,5],[],[
  ⟨some 15,.mv (.t 5),none,false⟩,
  ⟨some 16,.bin .int .add (.t 15) (.c (.dat (.int .i64 1))),none,false⟩,
  ⟨some 5,.mv (.t 16),none,false⟩],[]⟩
def l22_0 : AC:=.seq (.seq (.reg r22_4) (.cond (.t 14) (.skip) (.exit 0))) (.seq (.block 1 (.seq (.reg r22_5) (.cond (.t 51) (.seq (.reg r22_6) (.ret)) (.skip)))) (.reg r22_7))
@[simp] theorem l22_0e (K : Orc) (s : St) : exec K l22_0 s = exec K (.seq (.seq (.reg r22_4) (.cond (.t 14) (.skip) (.exit 0))) (.seq (.block 1 (.seq (.reg r22_5) (.cond (.t 51) (.seq (.reg r22_6) (.ret)) (.skip)))) (.reg r22_7))) s:=rfl
@[simp] def r22_8 : AReg:=⟨[],[],[
  ⟨some 4,.mv (.c (.dat (.bool true))),none,false⟩],[]⟩
@[simp] def fn22 : AFun:=⟨2,[.t 4],false,
 .seq (.reg r22_0) (.seq (.seq (.reg r22_1) (.cond (.t 10) (.seq (.reg r22_2) (.ret)) (.skip))) (.seq (.seq (.reg r22_3) (.block 0 (.loop l22_0))) (.seq (.reg r22_8) (.ret)))),none⟩
theorem c22 : cFun Tryz.prog ann22 false 22 = some fn22:=by kernel_rfl
def ann23 : Ann:=[{ id:=0,live:=[0] },
 { id:=1,live:=[0] },
 { id:=2,live:=[] },
 { id:=3,live:=[0],marks:=[(0,{ md:=.o })] },
 { id:=4,live:=[0,3] },
 { id:=5,live:=[3,10,11,12],drop:=[3,10] },
 { id:=6,live:=[3,10,11,12] },
 { id:=7,live:=[3,5,10,11,12],marks:=[(4,{ md:=.o })] },
 { id:=8,live:=[3,10,11,12] },
 { id:=9,live:=[3] }]
@[simp] def r23_0 : AReg:=⟨[0],[],[
  ⟨some 2,.mv (.c .nils),none,false⟩],[]⟩
@[simp] def r23_1 : AReg:=⟨[0],[],[
  ⟨some 6,.mv (.t 0),none,false⟩,
  ⟨some 7,.call 40 [((.t 6),false)] true,none,false⟩,
  ⟨some 8,.un .not (.t 7),none,false⟩],[]⟩
@[simp] def r23_2 : AReg:=⟨[],[],[
  ⟨some 2,.mv (.c .nils),none,false⟩],[]⟩
@[simp] def r23_3 : AReg:=⟨[0],[],[
  ⟨some 3,.mvNil .o 1,none,false⟩],[]⟩
@[simp] def r23_4 : AReg:=⟨[0,3],[],[
  ⟨some 9,.mv (.t 0),none,false⟩,
  ⟨some 10,.call 45 [((.t 9),false)] false,none,false⟩,
  ⟨some 11,.len false (.t 10),none,false⟩,
  ⟨some 12,.mv (.c (.dat (.int .i64 0))),none,false⟩],[]⟩
@[simp] def r23_5 : AReg:=⟨[3,10,11,12],[3,10],[
  ⟨some 13,.bin .int .lss (.t 12) (.t 11),none,false⟩],[]⟩
@[simp] def r23_6 : AReg:=⟨[3,10,11,12],[],[
  ⟨some 14,.iAddr 10 (.t 10) (.t 12),none,false⟩,
  ⟨some 15,.ld 10 true (.t 14),none,false⟩,
  ⟨some 5,.alc [(.dat (.int .i64 0)),(.dat (.int .i64 0)),(.dat (.int .i64 0)),(.dat (.int .i64 0)),(.dat (.int .i64 0)),(.dat (.int .i64 0)),(.dat (.int .i64 0)),(.dat (.int .i64 0)),(.dat (.int .i64 0)),.nils],none,false⟩,
  ⟨none,.st false 10 (.t 5) (.t 15),none,false⟩],[]⟩
@[simp] def r23_7 : AReg:=⟨[3,5,10,11,12],[],[
  ⟨some 16,.mv (.t 3),none,false⟩,
  ⟨some 17,.fAddr 9 (.t 5),none,false⟩,
  ⟨some 18,.ld 1 false (.t 17),none,false⟩,
  ⟨some 19,.bldS .d 1 [(.t 18)],none,false⟩,
  ⟨some 20,.app .o 1 24 (.t 16) (.t 19),none,false⟩,
  ⟨some 3,.mv (.t 20),none,false⟩],[]⟩
@[simp] def r23_8 : AReg:=⟨[3,10,11,12],[],[
  ⟨some 21,.bin .int .add (.t 12) (.c (.dat (.int .i64 1))),none,false⟩,
  ⟨some 12,.mv (.t 21),none,false⟩],[]⟩
def l23_0 : AC:=.seq (.reg r23_5) (.seq (.cond (.t 13) (.skip) (.exit 0)) (.seq (.block 1 (.seq (.reg r23_6) (.reg r23_7))) (.reg r23_8)))
@[simp] theorem l23_0e (K : Orc) (s : St) : exec K l23_0 s = exec K (.seq (.reg r23_5) (.seq (.cond (.t 13) (.skip) (.exit 0)) (.seq (.block 1 (.seq (.reg r23_6) (.reg r23_7))) (.reg r23_8)))) s:=rfl
@[simp] def r23_9 : AReg:=⟨[3],[],[
  ⟨some 22,.mv (.t 3),none,false⟩,
  ⟨some 2,.mv (.t 22),none,false⟩],[]⟩
@[simp] def fn23 : AFun:=⟨1,[.t 2],false,
 .seq (.reg r23_0) (.seq (.seq (.reg r23_1) (.cond (.t 8) (.seq (.reg r23_2) (.ret)) (.skip))) (.seq (.reg r23_3) (.seq (.seq (.reg r23_4) (.block 0 (.loop l23_0))) (.seq (.reg r23_9) (.ret))))),none⟩
theorem c23 : cFun Tryz.prog ann23 false 23 = some fn23:=by kernel_rfl
def ann24 : Ann:=[{ id:=0,live:=[0] },
 { id:=1,live:=[0] },
 { id:=2,live:=[] },
 { id:=3,live:=[0] },
 { id:=4,live:=[0,3],marks:=[(0,{ md:=.o })] },
 { id:=5,live:=[0,3,4] },
 { id:=6,live:=[0,3,4,5],drop:=[0,3,4] },
 { id:=8,live:=[0,3,4,5] },
 { id:=9,live:=[0,3,4,5,6] },
 { id:=10,live:=[0,3,4,5,6,7],drop:=[0,3,4,6] },
 { id:=12,live:=[0,3,4,5,6,7] },
 { id:=13,live:=[0,3,4,5,6,7] },
 { id:=11,live:=[0,3,4,5,6,7] },
 { id:=14,live:=[0,3,4,5,6],marks:=[(3,{ md:=.o })] },
 { id:=7,live:=[0,3,4,5] },
 { id:=15,live:=[4] }]
@[simp] def r24_0 : AReg:=⟨[0],[],[
  ⟨some 2,.mv (.c .nils),none,false⟩],[]⟩
@[simp] def r24_1 : AReg:=⟨[0],[],[
  ⟨some 8,.mv (.t 0),none,false⟩,
  ⟨some 9,.call 42 [((.t 8),false)] true,none,false⟩,
  ⟨some 10,.un .not (.t 9),none,false⟩],[]⟩
@[simp] def r24_2 : AReg:=⟨[],[],[
  ⟨some 2,.mv (.c .nils),none,false⟩],[]⟩
@[simp] def r24_3 : AReg:=⟨[0],[],[
  ⟨some 11,.mv (.t 0),none,false⟩,
  ⟨some 12,.call 46 [((.t 11),false)] false,none,false⟩,
  ⟨some 3,.mv (.t 12),none,false⟩],[]⟩
@[simp] def r24_4 : AReg:=⟨[0,3],[],[
  ⟨some 13,.bldS .o 1 [],none,false⟩,
  ⟨some 4,.mv (.t 13),none,false⟩],[]⟩
@[simp] def r24_5 : AReg:=⟨[0,3,4],[],[
  ⟨some 5,.mv (.c (.dat (.int .i64 0))),none,false⟩],[]⟩
@[simp] def r24_6 : AReg:=⟨[0,3,4,5],[0,3,4],[
  ⟨some 14,.mv (.t 5),none,false⟩,
  ⟨some 15,.mv (.t 0),none,false⟩,
  ⟨some 16,.len false (.t 15),none,false⟩,
  ⟨some 17,.bin .int .lss (.t 14) (.t 16),none,false⟩],[]⟩
@[simp] def r24_7 : AReg:=⟨[0,3,4,5],[],[
  ⟨some 20,.mv (.t 0),none,false⟩,
  ⟨some 21,.mv (.t 5),none,false⟩,
  ⟨some 22,.iAddr 9 (.t 20) (.t 21),none,false⟩,
  ⟨some 23,.fAddr 0 (.t 22),none,false⟩,
  ⟨some 24,.ld 1 false (.t 23),none,false⟩,
  ⟨some 25,.call 47 [((.c .nils),false),((.t 24),false)] false,none,false⟩,
  ⟨some 6,.mv (.t 25),none,false⟩],[]⟩
@[simp] def r24_8 : AReg:=⟨[0,3,4,5,6],[],[
  ⟨some 7,.mv (.c (.dat (.int .i64 0))),none,false⟩],[]⟩
@[simp] def r24_9 : AReg:=⟨[0,3,4,5,6,7],[0,3,4,6],[
  ⟨some 26,.mv (.t 7),none,false⟩,
  ⟨some 27,.mv (.t 5),none,false⟩,
  ⟨some 28,.bin .int .lss (.t 26) (.t 27),none,false⟩],[]⟩
@[simp] def r24_10 : AReg:=⟨[0,3,4,5,6,7],[],[
  ⟨some 31,.mv (.t 3),none,false⟩,
  ⟨some 32,.mv (.t 5),none,false⟩,
  ⟨some 33,.iAddr 1 (.t 31) (.t 32),none,false⟩,
  ⟨some 34,.ld 1 false (.t 33),none,false⟩,
  ⟨some 35,.mv (.t 7),none,false⟩,
  ⟨some 36,.iAddr 1 (.t 34) (.t 35),none,false⟩,
  ⟨some 37,.ld 1 false (.t 36),none,false⟩],[]⟩
@[simp] def r24_11 : AReg:=⟨[0,3,4,5,6,7],[],[
  ⟨some 38,.mv (.t 6),none,false⟩,
  ⟨some 39,.mv (.t 0),none,false⟩,
  ⟨some 40,.mv (.t 7),none,false⟩,
  ⟨some 41,.iAddr 9 (.t 39) (.t 40),none,false⟩,
  ⟨some 42,.fAddr 0 (.t 41),none,false⟩,
  ⟨some 43,.ld 1 false (.t 42),none,false⟩,
  ⟨some 44,.call 47 [((.t 38),false),((.t 43),false)] false,none,false⟩,
  ⟨some 6,.mv (.t 44),none,false⟩],[]⟩
@[simp] def r24_12 : AReg:=⟨[0,3,4,5,6,7],[],[
  ⟨some 29,.mv (.t 7),none,false⟩,
  ⟨some 30,.bin .int .add (.t 29) (.c (.dat (.int .i64 1))),none,false⟩,
  ⟨some 7,.mv (.t 30),none,false⟩],[]⟩
def l24_0 : AC:=.seq (.seq (.reg r24_9) (.cond (.t 28) (.skip) (.exit 2))) (.seq (.block 3 (.seq (.reg r24_10) (.cond (.t 37) (.reg r24_11) (.skip)))) (.reg r24_12))
@[simp] theorem l24_0e (K : Orc) (s : St) : exec K l24_0 s = exec K (.seq (.seq (.reg r24_9) (.cond (.t 28) (.skip) (.exit 2))) (.seq (.block 3 (.seq (.reg r24_10) (.cond (.t 37) (.reg r24_11) (.skip)))) (.reg r24_12))) s:=rfl
@[simp] def r24_13 : AReg:=⟨[0,3,4,5,6],[],[
  ⟨some 45,.mv (.t 4),none,false⟩,
  ⟨some 46,.mv (.t 6),none,false⟩,
  ⟨some 47,.bldS .d 1 [(.t 46)],none,false⟩,
  ⟨some 48,.app .o 1 24 (.t 45) (.t 47),none,false⟩,
  ⟨some 4,.mv (.t 48),none,false⟩],[]⟩
@[simp] def r24_14 : AReg:=⟨[0,3,4,5],[],[
  ⟨some 18,.mv (.t 5),none,false⟩,
  ⟨some 19,.bin .int .add (.t 18) (.c (.dat (.int .i64 1))),none,false⟩,
  ⟨some 5,.mv (.t 19),none,false⟩],[]⟩
def l24_1 : AC:=.seq (.seq (.reg r24_6) (.cond (.t 17) (.skip) (.exit 0))) (.seq (.block 1 (.seq (.reg r24_7) (.seq (.seq (.reg r24_8) (.block 2 (.loop l24_0))) (.reg r24_13)))) (.reg r24_14))
@[simp] theorem l24_1e (K : Orc) (s : St) : exec K l24_1 s = exec K (.seq (.seq (.reg r24_6) (.cond (.t 17) (.skip) (.exit 0))) (.seq (.block 1 (.seq (.reg r24_7) (.seq (.seq (.reg r24_8) (.block 2 (.loop l24_0))) (.reg r24_13)))) (.reg r24_14))) s:=rfl
@[simp] def r24_15 : AReg:=⟨[4],[],[
  ⟨some 49,.mv (.t 4),none,false⟩,
  ⟨some 2,.mv (.t 49),none,false⟩],[]⟩
@[simp] def fn24 : AFun:=⟨1,[.t 2],false,
 .seq (.reg r24_0) (.seq (.seq (.reg r24_1) (.cond (.t 10) (.seq (.reg r24_2) (.ret)) (.skip))) (.seq (.reg r24_3) (.seq (.reg r24_4) (.seq (.seq (.reg r24_5) (.block 0 (.loop l24_1))) (.seq (.reg r24_15) (.ret)))))),none⟩
theorem c24 : cFun Tryz.prog ann24 false 24 = some fn24:=by kernel_rfl
def ann40 : Ann:=[{ id:=0,live:=[0] },
 { id:=1,live:=[0],marks:=[(5,{ byRef:=[1] })] }]
@[simp] def r40_0 : AReg:=⟨[0],[],[
  ⟨some 2,.mv (.c (.dat (.bool false))),none,false⟩],[]⟩
@[simp] def r40_1 : AReg:=⟨[0],[],[
  ⟨some 3,.mv (.t 0),none,false⟩,
  ⟨some 4,.len false (.t 3),none,false⟩,
  ⟨some 5,.bin .int .leq (.t 4) (.c (.dat (.int .i64 512))),none,false⟩,
  ⟨some 6,.mv (.t 5),none,false⟩,
  ⟨some 7,.mv (.t 0),some (6,true),false⟩,
  ⟨some 8,.call 70 [((.t 7),false),((.c (.fn 71 [])),true)] true,some (6,true),false⟩,
  ⟨some 9,.un .not (.t 8),some (6,true),false⟩,
  ⟨some 10,.pick (.t 6) (.t 9) (.c (.dat (.bool false))),none,false⟩,
  ⟨some 2,.mv (.t 10),none,false⟩],[]⟩
@[simp] def fn40 : AFun:=⟨1,[.t 2],false,
 .seq (.reg r40_0) (.seq (.reg r40_1) (.ret)),none⟩
theorem c40 : cFun Tryz.prog ann40 false 40 = some fn40:=by kernel_rfl
def ann41 : Ann:=[{ id:=0,live:=[0,1] },
 { id:=1,live:=[0,1] },
 { id:=2,live:=[0,1,5] },
 { id:=3,live:=[] },
 { id:=4,live:=[0,1,5] },
 { id:=5,live:=[0,1,5] },
 { id:=6,live:=[0,1,5] },
 { id:=7,live:=[0,5,6],drop:=[0,5] },
 { id:=9,live:=[0,5,6] },
 { id:=10,live:=[0,5,6,7] },
 { id:=11,live:=[0,6,7] },
 { id:=12,live:=[0,6,7] },
 { id:=13,live:=[6,8] },
 { id:=14,live:=[8] },
 { id:=15,live:=[6] },
 { id:=8,live:=[0,5,6] },
 { id:=16,live:=[] }]
@[simp] def r41_0 : AReg:=⟨[0,1],[],[
  ⟨some 4,.mv (.c (.dat (.int .i64 0))),none,false⟩],[]⟩
@[simp] def r41_1 : AReg:=⟨[0,1],[],[
  ⟨some 9,.mv (.t 0),none,false⟩,
  ⟨some 10,.mv (.t 1),none,false⟩,
  ⟨some 11,.iAddr 9 (.t 9) (.t 10),none,false⟩,
  ⟨some 12,.ld 9 true (.t 11),none,false⟩,
  ⟨some 5,.alc [(.dat (.int .i64 0)),(.dat (.int .i64 0)),(.dat (.int .i64 0)),(.dat (.int .i64 0)),(.dat (.int .i64 0)),(.dat (.int .i64 0)),(.dat (.int .i64 0)),(.dat (.int .i64 0)),(.dat (.int .i64 0))],none,false⟩,
  ⟨none,.st false 9 (.t 5) (.t 12),none,false⟩],[]⟩
@[simp] def r41_2 : AReg:=⟨[0,1,5],[],[
  ⟨some 13,.ld 9 true (.t 5),none,false⟩,
  ⟨some 14,.call 73 [((.t 13),false)] true,none,false⟩,
  ⟨some 15,.un .not (.t 14),none,false⟩],[]⟩
@[simp] def r41_3 : AReg:=⟨[],[],[
  ⟨some 4,.mv (.c (.dat (.int .i64 (-2)))),none,false⟩],[]⟩
@[simp] def r41_4 : AReg:=⟨[0,1,5],[],[
  ⟨some 16,.fAddr 5 (.t 5),none,false⟩,
  ⟨some 17,.ld 1 false (.t 16),none,false⟩,
  ⟨some 18,.bin .int .geq (.t 17) (.c (.dat (.int .i64 0))),none,false⟩],[]⟩
@[simp] def r41_5 : AReg:=⟨[0,1,5],[],[
  ⟨some 19,.mv (.t 0),none,false⟩,
  ⟨some 20,.mv (.t 1),none,false⟩,
  ⟨some 21,.fAddr 0 (.t 5),none,false⟩,
  ⟨some 22,.ld 1 false (.t 21),none,false⟩,
  ⟨some 23,.fAddr 5 (.t 5),none,false⟩,
  ⟨some 24,.ld 1 false (.t 23),none,false⟩,
  ⟨some 25,.call 74 [((.t 19),false),((.t 20),false),((.t 22),false),((.t 24),false)] true,none,false⟩,
  ⟨some 4,.mv (.t 25),none,false⟩],[]⟩
@[simp] def r41_6 : AReg:=⟨[0,1,5],[],[
  ⟨some 26,.mv (.t 1),none,false⟩,
  ⟨some 27,.bin .int .sub (.t 26) (.c (.dat (.int .i64 1))),none,false⟩,
  ⟨some 6,.mv (.t 27),none,false⟩],[]⟩
@[simp] def r41_7 : AReg:=⟨[0,5,6],[0,5],[
  ⟨some 28,.mv (.t 6),none,false⟩,
  ⟨some 29,.bin .int .geq (.t 28) (.c (.dat (.int .i64 0))),none,false⟩],[]⟩
@[simp] def r41_8 : AReg:=⟨[0,5,6],[],[
  ⟨some 32,.mv (.t 0),none,false⟩,
  ⟨some 33,.mv (.t 6),none,false⟩,
  ⟨some 34,.iAddr 9 (.t 32) (.t 33),none,false⟩,
  ⟨some 35,.ld 9 true (.t 34),none,false⟩,
  ⟨some 7,.alc [(.dat (.int .i64 0)),(.dat (.int .i64 0)),(.dat (.int .i64 0)),(.dat (.int .i64 0)),(.dat (.int .i64 0)),(.dat (.int .i64 0)),(.dat (.int .i64 0)),(.dat (.int .i64 0)),(.dat (.int .i64 0))],none,false⟩,
  ⟨none,.st false 9 (.t 7) (.t 35),none,false⟩],[]⟩
@[simp] def r41_9 : AReg:=⟨[0,5,6,7],[],[
  ⟨some 36,.ld 9 true (.t 7),none,false⟩,
  ⟨some 37,.call 75 [((.t 36),false)] true,none,false⟩,
  ⟨some 38,.un .not (.t 37),none,false⟩,
  ⟨some 39,.mv (.t 38),none,false⟩,
  ⟨some 40,.fAddr 3 (.t 7),some (39,false),false⟩,
  ⟨some 41,.ld 1 false (.t 40),some (39,false),false⟩,
  ⟨some 42,.fAddr 3 (.t 5),some (39,false),false⟩,
  ⟨some 43,.ld 1 false (.t 42),some (39,false),false⟩,
  ⟨some 44,.bin .int .neq (.t 41) (.t 43),some (39,false),false⟩,
  ⟨some 45,.pick (.t 39) (.c (.dat (.bool true))) (.t 44),none,false⟩],[]⟩
@[simp] def r41_10 : AReg:=⟨[0,6,7],[],[
  ⟨some 46,.fAddr 2 (.t 7),none,false⟩,
  ⟨some 47,.ld 1 false (.t 46),none,false⟩,
  ⟨some 48,.bin .int .eql (.t 47) (.c (.dat (.int .i64 4))),none,false⟩],[]⟩
@[simp] def r41_11 : AReg:=⟨[0,6,7],[],[
  ⟨some 49,.mv (.t 0),none,false⟩,
  ⟨some 50,.mv (.t 6),none,false⟩,
  ⟨some 51,.fAddr 0 (.t 7),none,false⟩,
  ⟨some 52,.ld 1 false (.t 51),none,false⟩,
  ⟨some 53,.call 76 [((.t 52),false)] true,none,true⟩,
  ⟨some 54,.fAddr 5 (.t 7),none,false⟩,
  ⟨some 55,.ld 1 false (.t 54),none,true⟩,
  ⟨some 56,.call 74 [((.t 49),false),((.t 50),false),((.t 53),false),((.t 55),false)] true,none,false⟩,
  ⟨some 8,.mv (.t 56),none,false⟩],[(4,6)]⟩
@[simp] def r41_12 : AReg:=⟨[6,8],[],[
  ⟨some 57,.mv (.t 8),none,false⟩,
  ⟨some 58,.bin .int .geq (.t 57) (.c (.dat (.int .i64 0))),none,false⟩],[]⟩
@[simp] def r41_13 : AReg:=⟨[8],[],[
  ⟨some 59,.mv (.t 8),none,false⟩,
  ⟨some 4,.mv (.t 59),none,false⟩],[]⟩
@[simp] def r41_14 : AReg:=⟨[6],[],[
  ⟨some 60,.mv (.t 6),none,false⟩,
  ⟨some 4,.mv (.t 60),none,false⟩],[]⟩
@[simp] def r41_15 : AReg:=⟨[0,5,6],[],[
  ⟨some 30,.mv (.t 6),none,false⟩,
  ⟨some 31,.bin .int .sub (.t 30) (.c (.dat (.int .i64 1))),none,false⟩,
  ⟨some 6,.mv (.t 31),none,false⟩],[]⟩
def l41_0 : AC:=.seq (.seq (.reg r41_7) (.cond (.t 29) (.skip) (.exit 0))) (.seq (.block 1 (.seq (.reg r41_8) (.seq (.seq (.reg r41_9) (.cond (.t 45) (.exit 1) (.skip))) (.seq (.seq (.reg r41_10) (.cond (.t 48) (.seq (.reg r41_11) (.seq (.reg r41_12) (.cond (.t 58) (.seq (.reg r41_13) (.ret)) (.skip)))) (.skip))) (.seq (.reg r41_14) (.ret)))))) (.reg r41_15))
@[simp] theorem l41_0e (K : Orc) (s : St) : exec K l41_0 s = exec K (.seq (.seq (.reg r41_7) (.cond (.t 29) (.skip) (.exit 0))) (.seq (.block 1 (.seq (.reg r41_8) (.seq (.seq (.reg r41_9) (.cond (.t 45) (.exit 1) (.skip))) (.seq (.seq (.reg r41_10) (.cond (.t 48) (.seq (.reg r41_11) (.seq (.reg r41_12) (.cond (.t 58) (.seq (.reg r41_13) (.ret)) (.skip)))) (.skip))) (.seq (.reg r41_14) (.ret)))))) (.reg r41_15))) s:=rfl
@[simp] def r41_16 : AReg:=⟨[],[],[
  ⟨some 4,.mv (.c (.dat (.int .i64 (-1)))),none,false⟩],[]⟩
@[simp] def fn41 : AFun:=⟨2,[.t 4],false,
 .seq (.reg r41_0) (.seq (.reg r41_1) (.seq (.seq (.reg r41_2) (.cond (.t 15) (.seq (.reg r41_3) (.ret)) (.skip))) (.seq (.seq (.reg r41_4) (.cond (.t 18) (.seq (.reg r41_5) (.ret)) (.skip))) (.seq (.seq (.reg r41_6) (.block 0 (.loop l41_0))) (.seq (.reg r41_16) (.ret)))))),none⟩
theorem c41 : cFun Tryz.prog ann41 false 41 = some fn41:=by kernel_rfl
def ann42 : Ann:=[{ id:=0,live:=[0] },
 { id:=1,live:=[0] },
 { id:=2,live:=[] },
 { id:=3,live:=[0] },
 { id:=4,live:=[0,3] },
 { id:=6,live:=[0,3] },
 { id:=7,live:=[] },
 { id:=5,live:=[0,3] },
 { id:=8,live:=[] }]
@[simp] def r42_0 : AReg:=⟨[0],[],[
  ⟨some 2,.mv (.c (.dat (.bool false))),none,false⟩],[]⟩
@[simp] def r42_1 : AReg:=⟨[0],[],[
  ⟨some 4,.mv (.t 0),none,false⟩,
  ⟨some 5,.len false (.t 4),none,false⟩,
  ⟨some 6,.bin .int .gtr (.t 5) (.c (.dat (.int .i64 512))),none,false⟩],[]⟩
@[simp] def r42_2 : AReg:=⟨[],[],[
  ⟨some 2,.mv (.c (.dat (.bool false))),none,false⟩],[]⟩
@[simp] def r42_3 : AReg:=⟨[0],[],[
  ⟨some 3,.mv (.c (.dat (.int .i64 0))),none,false⟩],[]⟩
@[simp] def r42_4 : AReg:=⟨[0,3],[],[
  ⟨some 7,.mv (.t 3),none,false⟩,
  ⟨some 8,.mv (.t 0),none,false⟩,
  ⟨some 9,.len false (.t 8),none,false⟩,
  ⟨some 10,.bin .int .lss (.t 7) (.t 9),none,false⟩],[]⟩
@[simp] def r42_5 : AReg:=⟨[0,3],[],[
  ⟨some 13,.mv (.t 0),none,false⟩,
  ⟨some 14,.mv (.t 3),none,false⟩,
  ⟨some 15,.iAddr 9 (.t 13) (.t 14),none,false⟩,
  ⟨some 16,.ld 9 true (.t 15),none,false⟩,
  ⟨some 17,.call 77 [((.t 16),false)] true,none,false⟩,
  ⟨some 18,.un .not (.t 17),none,false⟩],[]⟩
@[simp] def r42_6 : AReg:=⟨[],[],[
  ⟨some 2,.mv (.c (.dat (.bool false))),none,false⟩],[]⟩
@[simp] def r42_7 : AReg:=⟨[0,3],[],[
  ⟨some 11,.mv (.t 3),none,false⟩,
  ⟨some 12,.bin .int .add (.t 11) (.c (.dat (.int .i64 1))),none,false⟩,
  ⟨some 3,.mv (.t 12),none,false⟩],[]⟩
def l42_0 : AC:=.seq (.seq (.reg r42_4) (.cond (.t 10) (.skip) (.exit 0))) (.seq (.block 1 (.seq (.reg r42_5) (.cond (.t 18) (.seq (.reg r42_6) (.ret)) (.skip)))) (.reg r42_7))
@[simp] theorem l42_0e (K : Orc) (s : St) : exec K l42_0 s = exec K (.seq (.seq (.reg r42_4) (.cond (.t 10) (.skip) (.exit 0))) (.seq (.block 1 (.seq (.reg r42_5) (.cond (.t 18) (.seq (.reg r42_6) (.ret)) (.skip)))) (.reg r42_7))) s:=rfl
@[simp] def r42_8 : AReg:=⟨[],[],[
  ⟨some 2,.mv (.c (.dat (.bool true))),none,false⟩],[]⟩
@[simp] def fn42 : AFun:=⟨1,[.t 2],false,
 .seq (.reg r42_0) (.seq (.seq (.reg r42_1) (.cond (.t 6) (.seq (.reg r42_2) (.ret)) (.skip))) (.seq (.seq (.reg r42_3) (.block 0 (.loop l42_0))) (.seq (.reg r42_8) (.ret)))),none⟩
theorem c42 : cFun Tryz.prog ann42 false 42 = some fn42:=by kernel_rfl
def ann43 : Ann:=[{ id:=0,live:=[0,1] },
 { id:=1,live:=[0,1] },
 { id:=2,live:=[0,1,5] },
 { id:=3,live:=[] },
 { id:=4,live:=[0,1,5] },
 { id:=5,live:=[0,1,5] },
 { id:=6,live:=[0,1,5] },
 { id:=7,live:=[0,5,6] },
 { id:=9,live:=[0,5,6] },
 { id:=10,live:=[0,6] },
 { id:=11,live:=[0,6] },
 { id:=12,live:=[6] },
 { id:=8,live:=[0,5,6] },
 { id:=13,live:=[] }]
@[simp] def r43_0 : AReg:=⟨[0,1],[],[
  ⟨some 4,.mv (.c (.dat (.int .i64 0))),none,false⟩],[]⟩
@[simp] def r43_1 : AReg:=⟨[0,1],[],[
  ⟨some 7,.mv (.t 0),none,false⟩,
  ⟨some 8,.mv (.t 1),none,false⟩,
  ⟨some 9,.iAddr 9 (.t 7) (.t 8),none,false⟩,
  ⟨some 10,.ld 9 true (.t 9),none,false⟩,
  ⟨some 5,.alc [(.dat (.int .i64 0)),(.dat (.int .i64 0)),(.dat (.int .i64 0)),(.dat (.int .i64 0)),(.dat (.int .i64 0)),(.dat (.int .i64 0)),(.dat (.int .i64 0)),(.dat (.int .i64 0)),(.dat (.int .i64 0))],none,false⟩,
  ⟨none,.st false 9 (.t 5) (.t 10),none,false⟩],[]⟩
@[simp] def r43_2 : AReg:=⟨[0,1,5],[],[
  ⟨some 11,.ld 9 true (.t 5),none,false⟩,
  ⟨some 12,.call 78 [((.t 11),false)] true,none,false⟩,
  ⟨some 13,.un .not (.t 12),none,false⟩],[]⟩
@[simp] def r43_3 : AReg:=⟨[],[],[
  ⟨some 4,.mv (.c (.dat (.int .i64 (-2)))),none,false⟩],[]⟩
@[simp] def r43_4 : AReg:=⟨[0,1,5],[],[
  ⟨some 14,.fAddr 5 (.t 5),none,false⟩,
  ⟨some 15,.ld 1 false (.t 14),none,false⟩,
  ⟨some 16,.bin .int .geq (.t 15) (.c (.dat (.int .i64 0))),none,false⟩],[]⟩
@[simp] def r43_5 : AReg:=⟨[0,1,5],[],[
  ⟨some 17,.mv (.t 0),none,false⟩,
  ⟨some 18,.mv (.t 1),none,false⟩,
  ⟨some 19,.fAddr 0 (.t 5),none,false⟩,
  ⟨some 20,.ld 1 false (.t 19),none,false⟩,
  ⟨some 21,.fAddr 5 (.t 5),none,false⟩,
  ⟨some 22,.ld 1 false (.t 21),none,false⟩,
  ⟨some 23,.call 79 [((.t 17),false),((.t 18),false),((.t 20),false),((.t 22),false),((.c (.dat (.int .i64 (-1)))),false)] true,none,false⟩,
  ⟨some 4,.mv (.t 23),none,false⟩],[]⟩
@[simp] def r43_6 : AReg:=⟨[0,1,5],[],[
  ⟨some 24,.mv (.t 1),none,false⟩,
  ⟨some 25,.bin .int .sub (.t 24) (.c (.dat (.int .i64 1))),none,false⟩,
  ⟨some 6,.mv (.t 25),none,false⟩],[]⟩
@[simp] def r43_7 : AReg:=⟨[0,5,6],[],[
  ⟨some 26,.mv (.t 6),none,false⟩,
  ⟨some 27,.bin .int .geq (.t 26) (.c (.dat (.int .i64 0))),none,false⟩],[]⟩
@[simp] def r43_8 : AReg:=⟨[0,5,6],[],[
  ⟨some 30,.mv (.t 0),none,false⟩,
  ⟨some 31,.mv (.t 6),none,false⟩,
  ⟨some 32,.iAddr 9 (.t 30) (.t 31),none,false⟩,
  ⟨some 33,.ld 9 true (.t 32),none,false⟩,
  ⟨some 34,.call 80 [((.t 33),false)] true,none,false⟩,
  ⟨some 35,.mv (.t 34),none,false⟩,
  ⟨some 36,.mv (.t 0),some (35,true),false⟩,
  ⟨some 37,.mv (.t 6),some (35,true),false⟩,
  ⟨some 38,.iAddr 9 (.t 36) (.t 37),some (35,true),false⟩,
  ⟨some 39,.fAddr 3 (.t 38),some (35,true),false⟩,
  ⟨some 40,.ld 1 false (.t 39),some (35,true),false⟩,
  ⟨some 41,.fAddr 3 (.t 5),some (35,true),false⟩,
  ⟨some 42,.ld 1 false (.t 41),some (35,true),false⟩,
  ⟨some 43,.bin .int .eql (.t 40) (.t 42),some (35,true),false⟩,
  ⟨some 44,.pick (.t 35) (.t 43) (.c (.dat (.bool false))),none,false⟩],[]⟩
@[simp] def r43_9 : AReg:=⟨[0,6],[],[
  ⟨some 45,.mv (.t 0),none,false⟩,
  ⟨some 46,.mv (.t 6),none,false⟩,
  ⟨some 47,.iAddr 9 (.t 45) (.t 46),none,false⟩,
  ⟨some 48,.fAddr 2 (.t 47),none,false⟩,
  ⟨some 49,.ld 1 false (.t 48),none,false⟩,
  ⟨some 50,.bin .int .eql (.t 49) (.c (.dat (.int .i64 4))),none,false⟩],[]⟩
@[simp] def r43_10 : AReg:=⟨[0,6],[],[
  ⟨some 51,.mv (.t 0),none,false⟩,
  ⟨some 52,.mv (.t 6),none,false⟩,
  ⟨some 53,.mv (.t 0),none,false⟩,
  ⟨some 54,.mv (.t 6),none,false⟩,
  ⟨some 55,.iAddr 9 (.t 53) (.t 54),none,false⟩,
  ⟨some 56,.fAddr 0 (.t 55),none,false⟩,
  ⟨some 57,.ld 1 false (.t 56),none,false⟩,
  ⟨some 58,.call 81 [((.t 57),false)] true,none,true⟩,
  ⟨some 59,.mv (.t 0),none,false⟩,
  ⟨some 60,.mv (.t 6),none,false⟩,
  ⟨some 61,.iAddr 9 (.t 59) (.t 60),none,false⟩,
  ⟨some 62,.fAddr 5 (.t 61),none,false⟩,
  ⟨some 63,.ld 1 false (.t 62),none,true⟩,
  ⟨some 64,.mv (.t 6),none,false⟩,
  ⟨some 65,.call 79 [((.t 51),false),((.t 52),false),((.t 58),false),((.t 63),false),((.t 64),false)] true,none,false⟩,
  ⟨some 4,.mv (.t 65),none,false⟩],[(7,12)]⟩
@[simp] def r43_11 : AReg:=⟨[6],[],[
  ⟨some 66,.mv (.t 6),none,false⟩,
  ⟨some 4,.mv (.t 66),none,false⟩],[]⟩
@[simp] def r43_12 : AReg:=⟨[0,5,6],[],[
  ⟨some 28,.mv (.t 6),none,false⟩,
  ⟨some 29,.bin .int .sub (.t 28) (.c (.dat (.int .i64 1))),none,false⟩,
  ⟨some 6,.mv (.t 29),none,false⟩],[]⟩
def l43_0 : AC:=.seq (.seq (.reg r43_7) (.cond (.t 27) (.skip) (.exit 0))) (.seq (.block 1 (.seq (.reg r43_8) (.cond (.t 44) (.seq (.seq (.reg r43_9) (.cond (.t 50) (.seq (.reg r43_10) (.ret)) (.skip))) (.seq (.reg r43_11) (.ret))) (.skip)))) (.reg r43_12))
@[simp] theorem l43_0e (K : Orc) (s : St) : exec K l43_0 s = exec K (.seq (.seq (.reg r43_7) (.cond (.t 27) (.skip) (.exit 0))) (.seq (.block 1 (.seq (.reg r43_8) (.cond (.t 44) (.seq (.seq (.reg r43_9) (.cond (.t 50) (.seq (.reg r43_10) (.ret)) (.skip))) (.seq (.reg r43_11) (.ret))) (.skip)))) (.reg r43_12))) s:=rfl
@[simp] def r43_13 : AReg:=⟨[],[],[
  ⟨some 4,.mv (.c (.dat (.int .i64 (-1)))),none,false⟩],[]⟩
@[simp] def fn43 : AFun:=⟨2,[.t 4],false,
 .seq (.reg r43_0) (.seq (.reg r43_1) (.seq (.seq (.reg r43_2) (.cond (.t 13) (.seq (.reg r43_3) (.ret)) (.skip))) (.seq (.seq (.reg r43_4) (.cond (.t 16) (.seq (.reg r43_5) (.ret)) (.skip))) (.seq (.seq (.reg r43_6) (.block 0 (.loop l43_0))) (.seq (.reg r43_13) (.ret)))))),none⟩
theorem c43 : cFun Tryz.prog ann43 false 43 = some fn43:=by kernel_rfl
def ann44 : Ann:=[{ id:=0,live:=[0,1] },
 { id:=1,live:=[0,1] },
 { id:=2,live:=[] },
 { id:=3,live:=[0,1] },
 { id:=4,live:=[0,1,5] },
 { id:=6,live:=[0,1,5] },
 { id:=7,live:=[] },
 { id:=5,live:=[0,1,5] },
 { id:=8,live:=[] }]
@[simp] def r44_0 : AReg:=⟨[0,1],[],[
  ⟨some 4,.mv (.c (.dat (.bool false))),none,false⟩],[]⟩
@[simp] def r44_1 : AReg:=⟨[0,1],[],[
  ⟨some 6,.mv (.t 0),none,false⟩,
  ⟨some 7,.call 82 [((.t 6),false)] true,none,false⟩,
  ⟨some 8,.un .not (.t 7),none,false⟩,
  ⟨some 9,.mv (.t 8),none,false⟩,
  ⟨some 10,.mv (.t 1),some (9,false),false⟩,
  ⟨some 11,.call 82 [((.t 10),false)] true,some (9,false),false⟩,
  ⟨some 12,.un .not (.t 11),some (9,false),false⟩,
  ⟨some 13,.pick (.t 9) (.c (.dat (.bool true))) (.t 12),none,false⟩],[]⟩
@[simp] def r44_2 : AReg:=⟨[],[],[
  ⟨some 4,.mv (.c (.dat (.bool false))),none,false⟩],[]⟩
@[simp] def r44_3 : AReg:=⟨[0,1],[],[
  ⟨some 5,.mv (.c (.dat (.int .i64 0))),none,false⟩],[]⟩
@[simp] def r44_4 : AReg:=⟨[0,1,5],[],[
  ⟨some 14,.mv (.t 5),none,false⟩,
  ⟨some 15,.mv (.t 0),none,false⟩,
  ⟨some 16,.len false (.t 15),none,false⟩,
  ⟨some 17,.bin .int .lss (.t 14) (.t 16),none,false⟩],[]⟩
@[simp] def r44_5 : AReg:=⟨[0,1,5],[],[
  ⟨some 20,.mv (.t 0),none,false⟩,
  ⟨some 21,.mv (.t 5),none,false⟩,
  ⟨some 22,.iAddr 2 (.t 20) (.t 21),none,false⟩,
  ⟨some 23,.fAddr 1 (.t 22),none,false⟩,
  ⟨some 24,.ld 1 false (.t 23),none,true⟩,
  ⟨some 25,.mv (.t 1),none,false⟩,
  ⟨some 26,.mv (.t 0),none,false⟩,
  ⟨some 27,.mv (.t 5),none,false⟩,
  ⟨some 28,.iAddr 2 (.t 26) (.t 27),none,false⟩,
  ⟨some 29,.fAddr 0 (.t 28),none,false⟩,
  ⟨some 30,.ld 1 false (.t 29),none,false⟩,
  ⟨some 31,.call 83 [((.t 25),false),((.t 30),false)] true,none,true⟩,
  ⟨some 32,.bin .int .gtr (.t 24) (.t 31),none,false⟩],[(4,11)]⟩
@[simp] def r44_6 : AReg:=⟨[],[],[
  ⟨some 4,.mv (.c (.dat (.bool false))),none,false⟩],[]⟩
@[simp] def r44_7 : AReg:=⟨[0,1,5],[],[
  ⟨some 18,.mv (.t 5),none,false⟩,
  ⟨some 19,.bin .int .add (.t 18) (.c (.dat (.int .i64 1))),none,false⟩,
  ⟨some 5,.mv (.t 19),none,false⟩],[]⟩
def l44_0 : AC:=.seq (.seq (.reg r44_4) (.cond (.t 17) (.skip) (.exit 0))) (.seq (.block 1 (.seq (.reg r44_5) (.cond (.t 32) (.seq (.reg r44_6) (.ret)) (.skip)))) (.reg r44_7))
@[simp] theorem l44_0e (K : Orc) (s : St) : exec K l44_0 s = exec K (.seq (.seq (.reg r44_4) (.cond (.t 17) (.skip) (.exit 0))) (.seq (.block 1 (.seq (.reg r44_5) (.cond (.t 32) (.seq (.reg r44_6) (.ret)) (.skip)))) (.reg r44_7))) s:=rfl
@[simp] def r44_8 : AReg:=⟨[],[],[
  ⟨some 4,.mv (.c (.dat (.bool true))),none,false⟩],[]⟩
@[simp] def fn44 : AFun:=⟨2,[.t 4],false,
 .seq (.reg r44_0) (.seq (.seq (.reg r44_1) (.cond (.t 13) (.seq (.reg r44_2) (.ret)) (.skip))) (.seq (.seq (.reg r44_3) (.block 0 (.loop l44_0))) (.seq (.reg r44_8) (.ret)))),none⟩
theorem c44 : cFun Tryz.prog ann44 false 44 = some fn44:=by kernel_rfl
def ann45 : Ann:=[{ id:=0,live:=[0] },
 { id:=1,live:=[0] },
 { id:=2,live:=[0,3],marks:=[(2,{ md:=.f })] },
 { id:=3,live:=[0,3,4,5,6] },
 { id:=4,live:=[0,3,4,5,6,7] },
 { id:=5,live:=[0,3,4,5,6,7,32,33,34],drop:=[0,3,4,5,6,7,32] },
 { id:=6,live:=[0,3,4,5,6,7,32,33,34] },
 { id:=7,live:=[0,3,4,5,6,7,8,9,32,33,34] },
 { id:=8,live:=[0,3,4,5,6,7,8,9,10,32,33,34] },
 { id:=9,live:=[0,3,4,5,6,7,8,9,10,11,32,33,34] },
 { id:=10,live:=[0,3,4,5,6,7,8,9,10,11,12,13,32,33,34] },
 { id:=11,live:=[0,3,4,5,6,7,8,9,10,11,12,32,33,34],marks:=[(2,{ byRef:=[1000] })] },
 { id:=12,live:=[0,3,4,5,6,7,8,9,10,11,32,33,34] },
 { id:=13,live:=[0,3,4,5,6,7,8,9,10,11,32,33,34,52,53,54],drop:=[0,3,4,5,6,7,9,10,11,32,52] },
 { id:=14,live:=[0,3,4,5,6,7,8,9,10,11,32,33,34,52,53,54] },
 { id:=15,live:=[0,3,4,5,6,7,8,9,10,11,15,32,33,34,52,53,54] },
 { id:=16,live:=[0,3,4,5,6,7,8,9,10,11,15,16,17,32,33,34,52,53,54] },
 { id:=17,live:=[0,3,4,5,6,7,8,9,10,11,15,16,32,33,34,52,53,54],marks:=[(2,{ byRef:=[1000] })] },
 { id:=18,live:=[0,3,4,5,6,7,8,9,10,11,15,32,33,34,52,53,54] },
 { id:=19,live:=[0,3,4,5,6,7,8,9,10,11,32,33,34,52,53,54] },
 { id:=20,live:=[0,3,4,5,6,7,8,9,10,11,32,33,34] },
 { id:=21,live:=[0,3,4,5,6,7,8,9,10,11,32,33,34,75,76,77] },
 { id:=22,live:=[0,3,4,5,6,7,8,9,10,11,32,33,34,75,76,77] },
 { id:=23,live:=[0,3,4,5,6,7,8,9,10,11,19,32,33,34,75,76,77],marks:=[(2,{ byRef:=[1000] })] },
 { id:=24,live:=[0,3,4,5,6,7,8,9,10,11,32,33,34,75,76,77] },
 { id:=25,live:=[0,3,4,5,6,7,8,9,10,11,32,33,34] },
 { id:=26,live:=[0,3,4,5,6,7,8,9,10,11,32,33,34,86] },
 { id:=27,live:=[0,3,4,5,6,7,8,9,10,11,32,33,34] },
 { id:=28,live:=[0,3,4,5,6,7,8,9,10,11,20,21,32,33,34] },
 { id:=29,live:=[0,3,4,5,6,7,8,9,10,11,20,32,33,34],marks:=[(2,{ byRef:=[1000] })] },
 { id:=30,live:=[0,3,4,5,6,7,8,9,10,11,32,33,34] },
 { id:=31,live:=[0,3,4,5,6,7,8,9,10,11,32,33,34,103,104,105] },
 { id:=32,live:=[0,3,4,5,6,7,8,9,10,11,32,33,34,103,104,105] },
 { id:=33,live:=[0,3,4,5,6,7,8,9,10,11,23,32,33,34,103,104,105],marks:=[(2,{ byRef:=[1000] })] },
 { id:=34,live:=[0,3,4,5,6,7,8,9,10,11,32,33,34,103,104,105] },
 { id:=35,live:=[0,3,4,5,6,7,8,9,10,11,32,33,34,86] },
 { id:=36,live:=[0,3,4,5,6,7,8,9,10,11,32,33,34] },
 { id:=37,live:=[0,3,4,5,6,7,8,9,10,11,32,33,34,115,116] },
 { id:=38,live:=[0,3,4,5,6,7,8,9,10,11,32,33,34,115,116] },
 { id:=39,live:=[0,3,4,5,6,7,8,9,10,11,24,32,33,34,115,116] },
 { id:=40,live:=[0,3,4,5,6,7,8,9,10,11,24,32,33,34,115,116],marks:=[(2,{ byRef:=[1000] })] },
 { id:=41,live:=[0,3,4,5,6,7,8,9,10,11,32,33,34,115,116] },
 { id:=42,live:=[0,3,4,5,6,7,8,9,10,11,32,33,34] },
 { id:=43,live:=[0,3,4,5,6,7,8,9,10,11,32,33,34,153,154,155] },
 { id:=44,live:=[0,3,4,5,6,7,8,9,10,11,32,33,34,153,154,155] },
 { id:=45,live:=[0,3,4,5,6,7,8,9,10,11,26,32,33,34,153,154,155],marks:=[(2,{ byRef:=[1000] })] },
 { id:=46,live:=[0,3,4,5,6,7,8,9,10,11,32,33,34,153,154,155] },
 { id:=47,live:=[0,3,4,5,6,7,8,9,10,32,33,34],marks:=[(8,{ md:=.o })] },
 { id:=48,live:=[0,3,4,5,6,7,8,9,32,33,34] },
 { id:=49,live:=[0,3,4,5,6,7,8,9,32,33,34] },
 { id:=50,live:=[0,3,4,5,6,7,8,9,32,33,34],marks:=[(9,{ md:=.o })] },
 { id:=51,live:=[0,3,4,5,6,7,32,33,34] },
 { id:=52,live:=[7] }]
@[simp] def r45_0 : AReg:=⟨[0],[],[
  ⟨some 2,.mv (.c .nils),none,false⟩],[]⟩
@[simp] def r45_1 : AReg:=⟨[0],[],[
  ⟨some 27,.mv (.t 0),none,false⟩,
  ⟨some 28,.call 20 [((.t 27),false)] false,none,false⟩,
  ⟨some 3,.mv (.t 28),none,false⟩],[]⟩
@[simp] def r45_2 : AReg:=⟨[0,3],[],[
  ⟨some 29,.mkMap false,none,false⟩,
  ⟨some 30,.mkMap false,none,false⟩,
  ⟨some 31,.mkMap true,none,false⟩,
  ⟨some 4,.mv (.t 29),none,false⟩,
  ⟨some 5,.mv (.t 30),none,false⟩,
  ⟨some 6,.mv (.t 31),none,false⟩],[]⟩
@[simp] def r45_3 : AReg:=⟨[0,3,4,5,6],[],[
  ⟨some 7,.alc [.nils],none,false⟩],[]⟩
@[simp] def r45_4 : AReg:=⟨[0,3,4,5,6,7],[],[
  ⟨some 32,.mv (.t 0),none,false⟩,
  ⟨some 33,.len false (.t 32),none,false⟩,
  ⟨some 34,.mv (.c (.dat (.int .i64 0))),none,false⟩],[]⟩
@[simp] def r45_5 : AReg:=⟨[0,3,4,5,6,7,32,33,34],[0,3,4,5,6,7,32],[
  ⟨some 35,.bin .int .lss (.t 34) (.t 33),none,false⟩],[]⟩
@[simp] def r45_6 : AReg:=⟨[0,3,4,5,6,7,32,33,34],[],[
  ⟨some 36,.mv (.t 34),none,false⟩,
  ⟨some 37,.iAddr 9 (.t 32) (.t 34),none,false⟩,
  ⟨some 38,.ld 9 true (.t 37),none,false⟩,
  ⟨some 9,.alc [(.dat (.int .i64 0)),(.dat (.int .i64 0)),(.dat (.int .i64 0)),(.dat (.int .i64 0)),(.dat (.int .i64 0)),(.dat (.int .i64 0)),(.dat (.int .i64 0)),(.dat (.int .i64 0)),(.dat (.int .i64 0))],none,false⟩,
  ⟨some 8,.mv (.t 36),none,false⟩,
  ⟨none,.st false 9 (.t 9) (.t 38),none,false⟩],[]⟩
@[simp] def r45_7 : AReg:=⟨[0,3,4,5,6,7,8,9,32,33,34],[],[
  ⟨some 10,.alc [.nils],none,false⟩],[]⟩
@[simp] def r45_8 : AReg:=⟨[0,3,4,5,6,7,8,9,10,32,33,34],[],[
  ⟨some 39,.mkf 84 [(.t 10),(.t 7)],none,false⟩,
  ⟨some 11,.mv (.t 39),none,false⟩],[]⟩
@[simp] def r45_9 : AReg:=⟨[0,3,4,5,6,7,8,9,10,11,32,33,34],[],[
  ⟨some 41,.mv (.t 4),none,false⟩,
  ⟨some 42,.fAddr 0 (.t 9),none,false⟩,
  ⟨some 43,.ld 1 false (.t 42),none,false⟩,
  ⟨some 44,.lkp false [.int .i64] [(.dat (.int .i64 0))] true (.t 41) (.t 43),none,false⟩,
  ⟨some 40,.mv (.t 44),none,false⟩,
  ⟨some 45,.ext 0 (.t 40),none,false⟩,
  ⟨some 46,.ext 1 (.t 40),none,false⟩,
  ⟨some 12,.mv (.t 45),none,false⟩,
  ⟨some 13,.mv (.t 46),none,false⟩],[]⟩
@[simp] def r45_10 : AReg:=⟨[0,3,4,5,6,7,8,9,10,11,12,13,32,33,34],[],[
  ⟨some 47,.mv (.t 13),none,false⟩],[]⟩
@[simp] def r45_11 : AReg:=⟨[0,3,4,5,6,7,8,9,10,11,12,32,33,34],[],[
  ⟨some 48,.mv (.t 11),none,false⟩,
  ⟨some 49,.mv (.t 12),none,false⟩,
  ⟨some 50,.callV (.t 48) [((.t 49),false)] false,none,false⟩],[]⟩
@[simp] def r45_12 : AReg:=⟨[0,3,4,5,6,7,8,9,10,11,32,33,34],[],[
  ⟨some 51,.ld 9 true (.t 9),none,false⟩,
  ⟨some 52,.call 86 [((.t 51),false)] false,none,false⟩,
  ⟨some 53,.len false (.t 52),none,false⟩,
  ⟨some 54,.mv (.c (.dat (.int .i64 0))),none,false⟩],[]⟩
@[simp] def r45_13 : AReg:=⟨[0,3,4,5,6,7,8,9,10,11,32,33,34,52,53,54],[0,3,4,5,6,7,9,10,11,32,52],[
  ⟨some 55,.bin .int .lss (.t 54) (.t 53),none,false⟩],[]⟩
@[simp] def r45_14 : AReg:=⟨[0,3,4,5,6,7,8,9,10,11,32,33,34,52,53,54],[],[
  ⟨some 56,.iAddr 2 (.t 52) (.t 54),none,false⟩,
  ⟨some 57,.ld 2 true (.t 56),none,false⟩,
  ⟨some 15,.alc [(.dat (.int .i64 0)),(.dat (.int .i64 0))],none,false⟩,
  ⟨none,.st false 2 (.t 15) (.t 57),none,false⟩],[]⟩
@[simp] def r45_15 : AReg:=⟨[0,3,4,5,6,7,8,9,10,11,15,32,33,34,52,53,54],[],[
  ⟨some 59,.mv (.t 5),none,false⟩,
  ⟨some 60,.ld 2 true (.t 15),none,false⟩,
  ⟨some 61,.lkp true [.int .i64,.int .i64] [(.dat (.int .i64 0))] true (.t 59) (.t 60),none,false⟩,
  ⟨some 58,.mv (.t 61),none,false⟩,
  ⟨some 62,.ext 0 (.t 58),none,false⟩,
  ⟨some 63,.ext 1 (.t 58),none,false⟩,
  ⟨some 16,.mv (.t 62),none,false⟩,
  ⟨some 17,.mv (.t 63),none,false⟩],[]⟩
@[simp] def r45_16 : AReg:=⟨[0,3,4,5,6,7,8,9,10,11,15,16,17,32,33,34,52,53,54],[],[
  ⟨some 64,.mv (.t 17),none,false⟩],[]⟩
@[simp] def r45_17 : AReg:=⟨[0,3,4,5,6,7,8,9,10,11,15,16,32,33,34,52,53,54],[],[
  ⟨some 65,.mv (.t 11),none,false⟩,
  ⟨some 66,.mv (.t 16),none,false⟩,
  ⟨some 67,.callV (.t 65) [((.t 66),false)] false,none,false⟩],[]⟩
@[simp] def r45_18 : AReg:=⟨[0,3,4,5,6,7,8,9,10,11,15,32,33,34,52,53,54],[],[
  ⟨some 68,.mv (.t 5),none,false⟩,
  ⟨some 69,.ld 2 true (.t 15),none,false⟩,
  ⟨some 70,.mv (.t 8),none,false⟩,
  ⟨none,.mup true [.int .i64,.int .i64] (.t 68) (.t 69) (.t 70),none,false⟩],[]⟩
@[simp] def r45_19 : AReg:=⟨[0,3,4,5,6,7,8,9,10,11,32,33,34,52,53,54],[],[
  ⟨some 71,.bin .int .add (.t 54) (.c (.dat (.int .i64 1))),none,false⟩,
  ⟨some 54,.mv (.t 71),none,false⟩],[]⟩
def l45_0 : AC:=.seq (.reg r45_13) (.seq (.cond (.t 55) (.skip) (.exit 2)) (.seq (.block 3 (.seq (.reg r45_14) (.seq (.seq (.reg r45_15) (.seq (.reg r45_16) (.cond (.t 64) (.reg r45_17) (.skip)))) (.reg r45_18)))) (.reg r45_19)))
@[simp] theorem l45_0e (K : Orc) (s : St) : exec K l45_0 s = exec K (.seq (.reg r45_13) (.seq (.cond (.t 55) (.skip) (.exit 2)) (.seq (.block 3 (.seq (.reg r45_14) (.seq (.seq (.reg r45_15) (.seq (.reg r45_16) (.cond (.t 64) (.reg r45_17) (.skip)))) (.reg r45_18)))) (.reg r45_19)))) s:=rfl
@[simp] def r45_20 : AReg:=⟨[0,3,4,5,6,7,8,9,10,11,32,33,34],[],[
  ⟨some 72,.mv (.t 6),none,false⟩,
  ⟨some 73,.fAddr 0 (.t 9),none,false⟩,
  ⟨some 74,.ld 1 false (.t 73),none,false⟩,
  ⟨some 75,.lkp false [.int .i64] [.nils] false (.t 72) (.t 74),none,false⟩,
  ⟨some 76,.len false (.t 75),none,false⟩,
  ⟨some 77,.mv (.c (.dat (.int .i64 0))),none,false⟩],[]⟩
@[simp] def r45_21 : AReg:=⟨[0,3,4,5,6,7,8,9,10,11,32,33,34,75,76,77],[],[
  ⟨some 78,.bin .int .lss (.t 77) (.t 76),none,false⟩],[]⟩
@[simp] def r45_22 : AReg:=⟨[0,3,4,5,6,7,8,9,10,11,32,33,34,75,76,77],[],[
  ⟨some 79,.iAddr 1 (.t 75) (.t 77),none,false⟩,
  ⟨some 80,.ld 1 false (.t 79),none,false⟩,
  ⟨some 19,.mv (.t 80),none,false⟩],[]⟩
@[simp] def r45_23 : AReg:=⟨[0,3,4,5,6,7,8,9,10,11,19,32,33,34,75,76,77],[],[
  ⟨some 81,.mv (.t 11),none,false⟩,
  ⟨some 82,.mv (.t 19),none,false⟩,
  ⟨some 83,.callV (.t 81) [((.t 82),false)] false,none,false⟩],[]⟩
@[simp] def r45_24 : AReg:=⟨[0,3,4,5,6,7,8,9,10,11,32,33,34,75,76,77],[],[
  ⟨some 84,.bin .int .add (.t 77) (.c (.dat (.int .i64 1))),none,false⟩,
  ⟨some 77,.mv (.t 84),none,false⟩],[]⟩
def l45_1 : AC:=.seq (.reg r45_21) (.seq (.cond (.t 78) (.skip) (.exit 4)) (.seq (.block 5 (.seq (.reg r45_22) (.reg r45_23))) (.reg r45_24)))
@[simp] theorem l45_1e (K : Orc) (s : St) : exec K l45_1 s = exec K (.seq (.reg r45_21) (.seq (.cond (.t 78) (.skip) (.exit 4)) (.seq (.block 5 (.seq (.reg r45_22) (.reg r45_23))) (.reg r45_24)))) s:=rfl
@[simp] def r45_25 : AReg:=⟨[0,3,4,5,6,7,8,9,10,11,32,33,34],[],[
  ⟨some 85,.fAddr 2 (.t 9),none,false⟩,
  ⟨some 86,.ld 1 false (.t 85),none,false⟩],[]⟩
@[simp] def r45_26 : AReg:=⟨[0,3,4,5,6,7,8,9,10,11,32,33,34,86],[],[
  ⟨some 88,.bin .int .eql (.t 86) (.c (.dat (.int .i64 17))),none,false⟩,
  ⟨some 87,.mv (.t 88),none,false⟩],[]⟩
@[simp] def r45_27 : AReg:=⟨[0,3,4,5,6,7,8,9,10,11,32,33,34],[],[
  ⟨some 90,.mv (.t 4),none,false⟩,
  ⟨some 91,.fAddr 3 (.t 9),none,false⟩,
  ⟨some 92,.ld 1 false (.t 91),none,false⟩,
  ⟨some 93,.lkp false [.int .i64] [(.dat (.int .i64 0))] true (.t 90) (.t 92),none,false⟩,
  ⟨some 89,.mv (.t 93),none,false⟩,
  ⟨some 94,.ext 0 (.t 89),none,false⟩,
  ⟨some 95,.ext 1 (.t 89),none,false⟩,
  ⟨some 20,.mv (.t 94),none,false⟩,
  ⟨some 21,.mv (.t 95),none,false⟩],[]⟩
@[simp] def r45_28 : AReg:=⟨[0,3,4,5,6,7,8,9,10,11,20,21,32,33,34],[],[
  ⟨some 96,.mv (.t 21),none,false⟩],[]⟩
@[simp] def r45_29 : AReg:=⟨[0,3,4,5,6,7,8,9,10,11,20,32,33,34],[],[
  ⟨some 97,.mv (.t 11),none,false⟩,
  ⟨some 98,.mv (.t 20),none,false⟩,
  ⟨some 99,.callV (.t 97) [((.t 98),false)] false,none,false⟩],[]⟩
@[simp] def r45_30 : AReg:=⟨[0,3,4,5,6,7,8,9,10,11,32,33,34],[],[
  ⟨some 100,.mv (.t 6),none,false⟩,
  ⟨some 101,.fAddr 3 (.t 9),none,false⟩,
  ⟨some 102,.ld 1 false (.t 101),none,false⟩,
  ⟨some 103,.lkp false [.int .i64] [.nils] false (.t 100) (.t 102),none,false⟩,
  ⟨some 104,.len false (.t 103),none,false⟩,
  ⟨some 105,.mv (.c (.dat (.int .i64 0))),none,false⟩],[]⟩
@[simp] def r45_31 : AReg:=⟨[0,3,4,5,6,7,8,9,10,11,32,33,34,103,104,105],[],[
  ⟨some 106,.bin .int .lss (.t 105) (.t 104),none,false⟩],[]⟩
@[simp] def r45_32 : AReg:=⟨[0,3,4,5,6,7,8,9,10,11,32,33,34,103,104,105],[],[
  ⟨some 107,.iAddr 1 (.t 103) (.t 105),none,false⟩,
  ⟨some 108,.ld 1 false (.t 107),none,false⟩,
  ⟨some 23,.mv (.t 108),none,false⟩],[]⟩
@[simp] def r45_33 : AReg:=⟨[0,3,4,5,6,7,8,9,10,11,23,32,33,34,103,104,105],[],[
  ⟨some 109,.mv (.t 11),none,false⟩,
  ⟨some 110,.mv (.t 23),none,false⟩,
  ⟨some 111,.callV (.t 109) [((.t 110),false)] false,none,false⟩],[]⟩
@[simp] def r45_34 : AReg:=⟨[0,3,4,5,6,7,8,9,10,11,32,33,34,103,104,105],[],[
  ⟨some 112,.bin .int .add (.t 105) (.c (.dat (.int .i64 1))),none,false⟩,
  ⟨some 105,.mv (.t 112),none,false⟩],[]⟩
def l45_2 : AC:=.seq (.reg r45_31) (.seq (.cond (.t 106) (.skip) (.exit 7)) (.seq (.block 8 (.seq (.reg r45_32) (.reg r45_33))) (.reg r45_34)))
@[simp] theorem l45_2e (K : Orc) (s : St) : exec K l45_2 s = exec K (.seq (.reg r45_31) (.seq (.cond (.t 106) (.skip) (.exit 7)) (.seq (.block 8 (.seq (.reg r45_32) (.reg r45_33))) (.reg r45_34)))) s:=rfl
@[simp] def r45_35 : AReg:=⟨[0,3,4,5,6,7,8,9,10,11,32,33,34,86],[],[
  ⟨some 114,.bin .int .eql (.t 86) (.c (.dat (.int .i64 4))),none,false⟩,
  ⟨some 113,.mv (.t 114),none,false⟩],[]⟩
@[simp] def r45_36 : AReg:=⟨[0,3,4,5,6,7,8,9,10,11,32,33,34],[],[
  ⟨some 115,.mv (.t 8),none,false⟩,
  ⟨some 116,.mv (.c (.dat (.int .i64 0))),none,false⟩],[]⟩
@[simp] def r45_37 : AReg:=⟨[0,3,4,5,6,7,8,9,10,11,32,33,34,115,116],[],[
  ⟨some 117,.bin .int .lss (.t 116) (.t 115),none,false⟩],[]⟩
@[simp] def r45_38 : AReg:=⟨[0,3,4,5,6,7,8,9,10,11,32,33,34,115,116],[],[
  ⟨some 118,.mv (.t 116),none,false⟩,
  ⟨some 24,.mv (.t 118),none,false⟩],[]⟩
@[simp] def r45_39 : AReg:=⟨[0,3,4,5,6,7,8,9,10,11,24,32,33,34,115,116],[],[
  ⟨some 119,.mv (.t 0),none,false⟩,
  ⟨some 120,.mv (.t 24),none,false⟩,
  ⟨some 121,.iAddr 9 (.t 119) (.t 120),none,false⟩,
  ⟨some 122,.fAddr 2 (.t 121),none,false⟩,
  ⟨some 123,.ld 1 false (.t 122),none,false⟩,
  ⟨some 124,.bin .int .eql (.t 123) (.c (.dat (.int .i64 3))),none,false⟩,
  ⟨some 125,.mv (.t 124),none,false⟩,
  ⟨some 126,.mv (.t 0),some (125,true),false⟩,
  ⟨some 127,.mv (.t 24),some (125,true),false⟩,
  ⟨some 128,.iAddr 9 (.t 126) (.t 127),some (125,true),false⟩,
  ⟨some 129,.fAddr 0 (.t 128),some (125,true),false⟩,
  ⟨some 130,.ld 1 false (.t 129),some (125,true),true⟩,
  ⟨some 131,.fAddr 0 (.t 9),some (125,true),false⟩,
  ⟨some 132,.ld 1 false (.t 131),some (125,true),false⟩,
  ⟨some 133,.call 76 [((.t 132),false)] true,some (125,true),true⟩,
  ⟨some 134,.bin .int .eql (.t 130) (.t 133),some (125,true),false⟩,
  ⟨some 135,.pick (.t 125) (.t 134) (.c (.dat (.bool false))),none,false⟩,
  ⟨some 136,.mv (.t 135),none,false⟩,
  ⟨some 137,.mv (.t 0),some (136,true),false⟩,
  ⟨some 138,.mv (.t 24),some (136,true),false⟩,
  ⟨some 139,.iAddr 9 (.t 137) (.t 138),some (136,true),false⟩,
  ⟨some 140,.fAddr 5 (.t 139),some (136,true),false⟩,
  ⟨some 141,.ld 1 false (.t 140),some (136,true),false⟩,
  ⟨some 142,.fAddr 5 (.t 9),some (136,true),false⟩,
  ⟨some 143,.ld 1 false (.t 142),some (136,true),false⟩,
  ⟨some 144,.bin .int .eql (.t 141) (.t 143),some (136,true),false⟩,
  ⟨some 145,.pick (.t 136) (.t 144) (.c (.dat (.bool false))),none,false⟩],[(11,14)]⟩
@[simp] def r45_40 : AReg:=⟨[0,3,4,5,6,7,8,9,10,11,24,32,33,34,115,116],[],[
  ⟨some 146,.mv (.t 11),none,false⟩,
  ⟨some 147,.mv (.t 24),none,false⟩,
  ⟨some 148,.callV (.t 146) [((.t 147),false)] false,none,false⟩],[]⟩
@[simp] def r45_41 : AReg:=⟨[0,3,4,5,6,7,8,9,10,11,32,33,34,115,116],[],[
  ⟨some 149,.bin .int .add (.t 116) (.c (.dat (.int .i64 1))),none,false⟩,
  ⟨some 116,.mv (.t 149),none,false⟩],[]⟩
def l45_3 : AC:=.seq (.reg r45_37) (.seq (.cond (.t 117) (.skip) (.exit 9)) (.seq (.block 10 (.seq (.reg r45_38) (.seq (.reg r45_39) (.cond (.t 145) (.reg r45_40) (.skip))))) (.reg r45_41)))
@[simp] theorem l45_3e (K : Orc) (s : St) : exec K l45_3 s = exec K (.seq (.reg r45_37) (.seq (.cond (.t 117) (.skip) (.exit 9)) (.seq (.block 10 (.seq (.reg r45_38) (.seq (.reg r45_39) (.cond (.t 145) (.reg r45_40) (.skip))))) (.reg r45_41)))) s:=rfl
@[simp] def r45_42 : AReg:=⟨[0,3,4,5,6,7,8,9,10,11,32,33,34],[],[
  ⟨some 150,.mv (.t 0),none,false⟩,
  ⟨some 151,.mv (.t 3),none,false⟩,
  ⟨some 152,.mv (.t 8),none,false⟩,
  ⟨some 153,.call 87 [((.t 150),false),((.t 151),false),((.t 152),false)] false,none,false⟩,
  ⟨some 154,.len false (.t 153),none,false⟩,
  ⟨some 155,.mv (.c (.dat (.int .i64 0))),none,false⟩],[]⟩
@[simp] def r45_43 : AReg:=⟨[0,3,4,5,6,7,8,9,10,11,32,33,34,153,154,155],[],[
  ⟨some 156,.bin .int .lss (.t 155) (.t 154),none,false⟩],[]⟩
@[simp] def r45_44 : AReg:=⟨[0,3,4,5,6,7,8,9,10,11,32,33,34,153,154,155],[],[
  ⟨some 157,.iAddr 1 (.t 153) (.t 155),none,false⟩,
  ⟨some 158,.ld 1 false (.t 157),none,false⟩,
  ⟨some 26,.mv (.t 158),none,false⟩],[]⟩
@[simp] def r45_45 : AReg:=⟨[0,3,4,5,6,7,8,9,10,11,26,32,33,34,153,154,155],[],[
  ⟨some 159,.mv (.t 11),none,false⟩,
  ⟨some 160,.mv (.t 26),none,false⟩,
  ⟨some 161,.callV (.t 159) [((.t 160),false)] false,none,false⟩],[]⟩
@[simp] def r45_46 : AReg:=⟨[0,3,4,5,6,7,8,9,10,11,32,33,34,153,154,155],[],[
  ⟨some 162,.bin .int .add (.t 155) (.c (.dat (.int .i64 1))),none,false⟩,
  ⟨some 155,.mv (.t 162),none,false⟩],[]⟩
def l45_4 : AC:=.seq (.reg r45_43) (.seq (.cond (.t 156) (.skip) (.exit 11)) (.seq (.block 12 (.seq (.reg r45_44) (.reg r45_45))) (.reg r45_46)))
@[simp] theorem l45_4e (K : Orc) (s : St) : exec K l45_4 s = exec K (.seq (.reg r45_43) (.seq (.cond (.t 156) (.skip) (.exit 11)) (.seq (.block 12 (.seq (.reg r45_44) (.reg r45_45))) (.reg r45_46)))) s:=rfl
@[simp] def r45_47 : AReg:=⟨[0,3,4,5,6,7,8,9,10,32,33,34],[],[
  ⟨some 163,.ld 1 false (.t 7),none,true⟩,
  ⟨some 164,.ld 9 true (.t 9),none,true⟩,
  ⟨some 165,.ld 1 false (.t 10),none,false⟩,
  ⟨some 166,.fAddr 0 (.t 9),none,false⟩,
  ⟨some 167,.ld 1 false (.t 166),none,false⟩,
  ⟨some 168,.call 88 [((.t 165),false),((.t 167),false)] false,none,true⟩,
  ⟨some 169,.bld [(.dat (.int .i64 0)),(.dat (.int .i64 0)),(.dat (.int .i64 0)),(.dat (.int .i64 0)),(.dat (.int .i64 0)),(.dat (.int .i64 0)),(.dat (.int .i64 0)),(.dat (.int .i64 0)),(.dat (.int .i64 0)),.nils] [(0,9,(.t 164)),(9,1,(.t 168))],none,false⟩,
  ⟨some 170,.bldS .d 10 [(.t 169)],none,true⟩,
  ⟨some 171,.app .o 10 96 (.t 163) (.t 170),none,false⟩,
  ⟨none,.st false 1 (.t 7) (.t 171),none,false⟩],[(0,5),(1,5),(0,7)]⟩
@[simp] def r45_48 : AReg:=⟨[0,3,4,5,6,7,8,9,32,33,34],[],[
  ⟨some 172,.mv (.t 4),none,false⟩,
  ⟨some 173,.fAddr 0 (.t 9),none,false⟩,
  ⟨some 174,.ld 1 false (.t 173),none,false⟩,
  ⟨some 175,.mv (.t 8),none,false⟩,
  ⟨none,.mup false [.int .i64] (.t 172) (.t 174) (.t 175),none,false⟩],[]⟩
@[simp] def r45_49 : AReg:=⟨[0,3,4,5,6,7,8,9,32,33,34],[],[
  ⟨some 176,.fAddr 2 (.t 9),none,false⟩,
  ⟨some 177,.ld 1 false (.t 176),none,false⟩,
  ⟨some 178,.bin .int .eql (.t 177) (.c (.dat (.int .i64 16))),none,false⟩],[]⟩
@[simp] def r45_50 : AReg:=⟨[0,3,4,5,6,7,8,9,32,33,34],[],[
  ⟨some 179,.mv (.t 6),none,false⟩,
  ⟨some 180,.fAddr 3 (.t 9),none,false⟩,
  ⟨some 181,.ld 1 false (.t 180),none,true⟩,
  ⟨some 182,.mv (.t 6),none,false⟩,
  ⟨some 183,.fAddr 3 (.t 9),none,false⟩,
  ⟨some 184,.ld 1 false (.t 183),none,true⟩,
  ⟨some 185,.lkp false [.int .i64] [.nils] false (.t 182) (.t 184),none,true⟩,
  ⟨some 186,.mv (.t 8),none,false⟩,
  ⟨some 187,.bldS .d 1 [(.t 186)],none,true⟩,
  ⟨some 188,.app .o 1 8 (.t 185) (.t 187),none,true⟩,
  ⟨none,.mup false [.int .i64] (.t 179) (.t 181) (.t 188),none,false⟩],[(2,8),(5,8),(6,8),(2,9)]⟩
@[simp] def r45_51 : AReg:=⟨[0,3,4,5,6,7,32,33,34],[],[
  ⟨some 189,.bin .int .add (.t 34) (.c (.dat (.int .i64 1))),none,false⟩,
  ⟨some 34,.mv (.t 189),none,false⟩],[]⟩
def l45_5 : AC:=.seq (.reg r45_5) (.seq (.cond (.t 35) (.skip) (.exit 0)) (.seq (.block 1 (.seq (.reg r45_6) (.seq (.reg r45_7) (.seq (.reg r45_8) (.seq (.seq (.reg r45_9) (.seq (.reg r45_10) (.cond (.t 47) (.reg r45_11) (.skip)))) (.seq (.seq (.reg r45_12) (.block 2 (.loop l45_0))) (.seq (.seq (.reg r45_20) (.block 4 (.loop l45_1))) (.seq (.seq (.reg r45_25) (.block 6 (.seq (.reg r45_26) (.cond (.t 87) (.seq (.seq (.reg r45_27) (.seq (.reg r45_28) (.cond (.t 96) (.reg r45_29) (.skip)))) (.seq (.reg r45_30) (.block 7 (.loop l45_2)))) (.seq (.reg r45_35) (.cond (.t 113) (.seq (.reg r45_36) (.block 9 (.loop l45_3))) (.skip))))))) (.seq (.seq (.reg r45_42) (.block 11 (.loop l45_4))) (.seq (.reg r45_47) (.seq (.reg r45_48) (.seq (.reg r45_49) (.cond (.t 178) (.reg r45_50) (.skip)))))))))))))) (.reg r45_51)))
@[simp] theorem l45_5e (K : Orc) (s : St) : exec K l45_5 s = exec K (.seq (.reg r45_5) (.seq (.cond (.t 35) (.skip) (.exit 0)) (.seq (.block 1 (.seq (.reg r45_6) (.seq (.reg r45_7) (.seq (.reg r45_8) (.seq (.seq (.reg r45_9) (.seq (.reg r45_10) (.cond (.t 47) (.reg r45_11) (.skip)))) (.seq (.seq (.reg r45_12) (.block 2 (.loop l45_0))) (.seq (.seq (.reg r45_20) (.block 4 (.loop l45_1))) (.seq (.seq (.reg r45_25) (.block 6 (.seq (.reg r45_26) (.cond (.t 87) (.seq (.seq (.reg r45_27) (.seq (.reg r45_28) (.cond (.t 96) (.reg r45_29) (.skip)))) (.seq (.reg r45_30) (.block 7 (.loop l45_2)))) (.seq (.reg r45_35) (.cond (.t 113) (.seq (.reg r45_36) (.block 9 (.loop l45_3))) (.skip))))))) (.seq (.seq (.reg r45_42) (.block 11 (.loop l45_4))) (.seq (.reg r45_47) (.seq (.reg r45_48) (.seq (.reg r45_49) (.cond (.t 178) (.reg r45_50) (.skip)))))))))))))) (.reg r45_51)))) s:=rfl
@[simp] def r45_52 : AReg:=⟨[7],[],[
  ⟨some 190,.ld 1 false (.t 7),none,false⟩,
  ⟨some 2,.mv (.t 190),none,false⟩],[]⟩
@[simp] def fn45 : AFun:=⟨1,[.t 2],false,
 .seq (.reg r45_0) (.seq (.reg r45_1) (.seq (.reg r45_2) (.seq (.reg r45_3) (.seq (.seq (.reg r45_4) (.block 0 (.loop l45_5))) (.seq (.reg r45_52) (.ret)))))),none⟩
theorem c45 : cFun Tryz.prog ann45 false 45 = some fn45:=by kernel_rfl
def ann46 : Ann:=[{ id:=0,live:=[0] },
 { id:=1,live:=[0] },
 { id:=2,live:=[0,3],marks:=[(0,{ md:=.f })] },
 { id:=3,live:=[0,3,4] },
 { id:=4,live:=[0,3,4,5],drop:=[0,3,4] },
 { id:=6,live:=[0,3,4,5],marks:=[(2,{ md:=.o })] },
 { id:=7,live:=[0,3,4,5,6] },
 { id:=8,live:=[0,3,4,5,6,7] },
 { id:=10,live:=[0,3,4,5,6,7] },
 { id:=11,live:=[0,3,4,5,6,7] },
 { id:=12,live:=[0,3,4,5,6,7] },
 { id:=13,live:=[0,3,4,5,6,7,8] },
 { id:=15,live:=[0,3,4,5,6,7,8] },
 { id:=14,live:=[0,3,4,5,6,7,8] },
 { id:=9,live:=[0,3,4,5,6,7] },
 { id:=16,live:=[0,3,4,5,6],marks:=[(2,{ md:=.r }),(3,{ md:=.f })] },
 { id:=5,live:=[0,3,4,5] },
 { id:=17,live:=[4] }]
@[simp] def r46_0 : AReg:=⟨[0],[],[
  ⟨some 2,.mv (.c .nils),none,false⟩],[]⟩
@[simp] def r46_1 : AReg:=⟨[0],[],[
  ⟨some 9,.mv (.t 0),none,false⟩,
  ⟨some 10,.call 21 [((.t 9),false)] false,none,false⟩,
  ⟨some 3,.mv (.t 10),none,false⟩],[]⟩
@[simp] def r46_2 : AReg:=⟨[0,3],[],[
  ⟨some 11,.bldS .f 1 [],none,false⟩,
  ⟨some 4,.mv (.t 11),none,false⟩],[]⟩
@[simp] def r46_3 : AReg:=⟨[0,3,4],[],[
  ⟨some 5,.mv (.c (.dat (.int .i64 0))),none,false⟩],[]⟩
@[simp] def r46_4 : AReg:=⟨[0,3,4,5],[0,3,4],[
  ⟨some 12,.mv (.t 5),none,false⟩,
  ⟨some 13,.mv (.t 0),none,false⟩,
  ⟨some 14,.len false (.t 13),none,false⟩,
  ⟨some 15,.bin .int .lss (.t 12) (.t 14),none,false⟩],[]⟩
@[simp] def r46_5 : AReg:=⟨[0,3,4,5],[],[
  ⟨some 18,.mv (.t 0),none,false⟩,
  ⟨some 19,.len false (.t 18),none,false⟩,
  ⟨some 20,.mk .o 1 1 [(.dat (.bool false))] (.t 19) (.t 19),none,false⟩,
  ⟨some 6,.mv (.t 20),none,false⟩],[]⟩
@[simp] def r46_6 : AReg:=⟨[0,3,4,5,6],[],[
  ⟨some 7,.mv (.c (.dat (.int .i64 0))),none,false⟩],[]⟩
@[simp] def r46_7 : AReg:=⟨[0,3,4,5,6,7],[],[
  ⟨some 21,.mv (.t 7),none,false⟩,
  ⟨some 22,.mv (.t 5),none,false⟩,
  ⟨some 23,.bin .int .lss (.t 21) (.t 22),none,false⟩],[]⟩
@[simp] def r46_8 : AReg:=⟨[0,3,4,5,6,7],[],[
  ⟨some 26,.mv (.t 0),none,false⟩,
  ⟨some 27,.mv (.t 3),none,false⟩,
  ⟨some 28,.mv (.t 7),none,false⟩,
  ⟨some 29,.mv (.t 5),none,false⟩,
  ⟨some 30,.call 89 [((.t 26),false),((.t 27),false),((.t 28),false),((.t 29),false)] true,none,false⟩],[]⟩
@[simp] def r46_9 : AReg:=⟨[0,3,4,5,6,7],[],[
  ⟨some 31,.mv (.t 6),none,false⟩,
  ⟨some 32,.mv (.t 7),none,false⟩,
  ⟨some 33,.iAddr 1 (.t 31) (.t 32),none,false⟩,
  ⟨none,.st false 1 (.t 33) (.c (.dat (.bool true))),none,false⟩],[]⟩
@[simp] def r46_10 : AReg:=⟨[0,3,4,5,6,7],[],[
  ⟨some 8,.mv (.c (.dat (.int .i64 0))),none,false⟩],[]⟩
@[simp] def r46_11 : AReg:=⟨[0,3,4,5,6,7,8],[],[
  ⟨some 34,.mv (.t 8),none,false⟩,
  ⟨some 35,.mv (.t 7),none,false⟩,
  ⟨some 36,.bin .int .lss (.t 34) (.t 35),none,false⟩],[]⟩
@[simp] def r46_12 : AReg:=⟨[0,3,4,5,6,7,8],[],[
  ⟨some 39,.mv (.t 6),none,false⟩,
  ⟨some 40,.mv (.t 8),none,false⟩,
  ⟨some 41,.mv (.t 6),none,false⟩,
  ⟨some 42,.mv (.t 8),none,false⟩,
  ⟨some 43,.iAddr 1 (.t 41) (.t 42),none,false⟩,
  ⟨some 44,.ld 1 false (.t 43),none,false⟩,
  ⟨some 45,.mv (.t 44),none,false⟩,
  ⟨some 46,.mv (.t 4),some (45,false),false⟩,
  ⟨some 47,.mv (.t 7),some (45,false),false⟩,
  ⟨some 48,.iAddr 1 (.t 46) (.t 47),some (45,false),false⟩,
  ⟨some 49,.ld 1 false (.t 48),some (45,false),false⟩,
  ⟨some 50,.mv (.t 8),some (45,false),false⟩,
  ⟨some 51,.iAddr 1 (.t 49) (.t 50),some (45,false),false⟩,
  ⟨some 52,.ld 1 false (.t 51),some (45,false),false⟩,
  ⟨some 53,.pick (.t 45) (.c (.dat (.bool true))) (.t 52),none,false⟩,
  ⟨some 54,.iAddr 1 (.t 39) (.t 40),none,false⟩,
  ⟨none,.st false 1 (.t 54) (.t 53),none,false⟩],[]⟩
@[simp] def r46_13 : AReg:=⟨[0,3,4,5,6,7,8],[],[
  ⟨some 37,.mv (.t 8),none,false⟩,
  ⟨some 38,.bin .int .add (.t 37) (.c (.dat (.int .i64 1))),none,false⟩,
  ⟨some 8,.mv (.t 38),none,false⟩],[]⟩
def l46_0 : AC:=.seq (.seq (.reg r46_11) (.cond (.t 36) (.skip) (.exit 4))) (.seq (.block 5 (.reg r46_12)) (.reg r46_13))
@[simp] theorem l46_0e (K : Orc) (s : St) : exec K l46_0 s = exec K (.seq (.seq (.reg r46_11) (.cond (.t 36) (.skip) (.exit 4))) (.seq (.block 5 (.reg r46_12)) (.reg r46_13))) s:=rfl
@[simp] def r46_14 : AReg:=⟨[0,3,4,5,6,7],[],[
  ⟨some 24,.mv (.t 7),none,false⟩,
  ⟨some 25,.bin .int .add (.t 24) (.c (.dat (.int .i64 1))),none,false⟩,
  ⟨some 7,.mv (.t 25),none,false⟩],[]⟩
def l46_1 : AC:=.seq (.seq (.reg r46_7) (.cond (.t 23) (.skip) (.exit 2))) (.seq (.block 3 (.seq (.reg r46_8) (.cond (.t 30) (.seq (.reg r46_9) (.seq (.reg r46_10) (.block 4 (.loop l46_0)))) (.skip)))) (.reg r46_14))
@[simp] theorem l46_1e (K : Orc) (s : St) : exec K l46_1 s = exec K (.seq (.seq (.reg r46_7) (.cond (.t 23) (.skip) (.exit 2))) (.seq (.block 3 (.seq (.reg r46_8) (.cond (.t 30) (.seq (.reg r46_9) (.seq (.reg r46_10) (.block 4 (.loop l46_0)))) (.skip)))) (.reg r46_14))) s:=rfl
@[simp] def r46_15 : AReg:=⟨[0,3,4,5,6],[],[
  ⟨some 55,.mv (.t 4),none,false⟩,
  ⟨some 56,.mv (.t 6),none,false⟩,
  ⟨some 57,.bldS .r 1 [(.t 56)],none,false⟩,
  ⟨some 58,.app .f 1 24 (.t 55) (.t 57),none,false⟩,
  ⟨some 4,.mv (.t 58),none,false⟩],[]⟩
@[simp] def r46_16 : AReg:=⟨[0,3,4,5],[],[
  ⟨some 16,.mv (.t 5),none,false⟩,
  ⟨some 17,.bin .int .add (.t 16) (.c (.dat (.int .i64 1))),none,false⟩,
  ⟨some 5,.mv (.t 17),none,false⟩],[]⟩
def l46_2 : AC:=.seq (.seq (.reg r46_4) (.cond (.t 15) (.skip) (.exit 0))) (.seq (.block 1 (.seq (.reg r46_5) (.seq (.seq (.reg r46_6) (.block 2 (.loop l46_1))) (.reg r46_15)))) (.reg r46_16))
@[simp] theorem l46_2e (K : Orc) (s : St) : exec K l46_2 s = exec K (.seq (.seq (.reg r46_4) (.cond (.t 15) (.skip) (.exit 0))) (.seq (.block 1 (.seq (.reg r46_5) (.seq (.seq (.reg r46_6) (.block 2 (.loop l46_1))) (.reg r46_15)))) (.reg r46_16))) s:=rfl
@[simp] def r46_17 : AReg:=⟨[4],[],[
  ⟨some 59,.mv (.t 4),none,false⟩,
  ⟨some 2,.mv (.t 59),none,false⟩],[]⟩
@[simp] def fn46 : AFun:=⟨1,[.t 2],false,
 .seq (.reg r46_0) (.seq (.reg r46_1) (.seq (.reg r46_2) (.seq (.seq (.reg r46_3) (.block 0 (.loop l46_2))) (.seq (.reg r46_17) (.ret))))),none⟩
theorem c46 : cFun Tryz.prog ann46 false 46 = some fn46:=by kernel_rfl
def ann47 : Ann:=[{ id:=0,live:=[0,1] },
 { id:=1,live:=[0,1],marks:=[(0,{ md:=.o })] },
 { id:=2,live:=[0,1,5] },
 { id:=3,live:=[0,1,5,6] },
 { id:=4,live:=[0,1,5,6,7],drop:=[0,5] },
 { id:=6,live:=[0,1,5,6,7] },
 { id:=7,live:=[0,1,5,6,7,8] },
 { id:=8,live:=[0,1,5,7,8] },
 { id:=9,live:=[0,1,5,7,8] },
 { id:=10,live:=[0,1,5,6,7,8] },
 { id:=11,live:=[0,1,5,7,8],marks:=[(4,{ md:=.o })] },
 { id:=12,live:=[0,1,5,7,8] },
 { id:=13,live:=[0,1,5,6,7,8],marks:=[(3,{ md:=.o })] },
 { id:=5,live:=[0,1,5,6,7] },
 { id:=14,live:=[1,5,6] },
 { id:=15,live:=[1,5],marks:=[(4,{ md:=.o })] },
 { id:=16,live:=[5] }]
@[simp] def r47_0 : AReg:=⟨[0,1],[],[
  ⟨some 4,.mv (.c .nils),none,false⟩],[]⟩
@[simp] def r47_1 : AReg:=⟨[0,1],[],[
  ⟨some 9,.bldS .o 2 [],none,false⟩,
  ⟨some 5,.mv (.t 9),none,false⟩],[]⟩
@[simp] def r47_2 : AReg:=⟨[0,1,5],[],[
  ⟨some 6,.mv (.c (.dat (.bool false))),none,false⟩],[]⟩
@[simp] def r47_3 : AReg:=⟨[0,1,5,6],[],[
  ⟨some 7,.mv (.c (.dat (.int .i64 0))),none,false⟩],[]⟩
@[simp] def r47_4 : AReg:=⟨[0,1,5,6,7],[0,5],[
  ⟨some 10,.mv (.t 7),none,false⟩,
  ⟨some 11,.mv (.t 0),none,false⟩,
  ⟨some 12,.len false (.t 11),none,false⟩,
  ⟨some 13,.bin .int .lss (.t 10) (.t 12),none,false⟩],[]⟩
@[simp] def r47_5 : AReg:=⟨[0,1,5,6,7],[],[
  ⟨some 16,.mv (.t 0),none,false⟩,
  ⟨some 17,.mv (.t 7),none,false⟩,
  ⟨some 18,.iAddr 2 (.t 16) (.t 17),none,false⟩,
  ⟨some 19,.ld 2 true (.t 18),none,false⟩,
  ⟨some 8,.alc [(.dat (.int .i64 0)),(.dat (.int .i64 0))],none,false⟩,
  ⟨none,.st false 2 (.t 8) (.t 19),none,false⟩],[]⟩
@[simp] def r47_6 : AReg:=⟨[0,1,5,6,7,8],[],[
  ⟨some 20,.fAddr 0 (.t 8),none,false⟩,
  ⟨some 21,.ld 1 false (.t 20),none,false⟩,
  ⟨some 22,.mv (.t 1),none,false⟩,
  ⟨some 23,.bin .int .eql (.t 21) (.t 22),none,false⟩],[]⟩
@[simp] def r47_7 : AReg:=⟨[0,1,5,7,8],[],[
  ⟨some 24,.fAddr 1 (.t 8),none,false⟩,
  ⟨some 25,.ld 1 false (.t 24),none,false⟩,
  ⟨some 26,.bin .int .add (.t 25) (.c (.dat (.int .i64 1))),none,false⟩,
  ⟨some 27,.fAddr 1 (.t 8),none,false⟩,
  ⟨none,.st false 1 (.t 27) (.t 26),none,false⟩],[]⟩
@[simp] def r47_8 : AReg:=⟨[0,1,5,7,8],[],[
  ⟨some 6,.mv (.c (.dat (.bool true))),none,false⟩],[]⟩
@[simp] def r47_9 : AReg:=⟨[0,1,5,6,7,8],[],[
  ⟨some 28,.fAddr 0 (.t 8),none,false⟩,
  ⟨some 29,.ld 1 false (.t 28),none,false⟩,
  ⟨some 30,.mv (.t 1),none,false⟩,
  ⟨some 31,.bin .int .gtr (.t 29) (.t 30),none,false⟩,
  ⟨some 32,.mv (.t 31),none,false⟩,
  ⟨some 33,.mv (.t 6),some (32,true),false⟩,
  ⟨some 34,.un .not (.t 33),some (32,true),false⟩,
  ⟨some 35,.pick (.t 32) (.t 34) (.c (.dat (.bool false))),none,false⟩],[]⟩
@[simp] def r47_10 : AReg:=⟨[0,1,5,7,8],[],[
  ⟨some 36,.mv (.t 5),none,false⟩,
  ⟨some 37,.mv (.t 1),none,false⟩,
  ⟨some 38,.bld [(.dat (.int .i64 0)),(.dat (.int .i64 0))] [(0,1,(.t 37)),(1,1,(.c (.dat (.int .i64 1))))],none,false⟩,
  ⟨some 39,.bldS .d 2 [(.t 38)],none,false⟩,
  ⟨some 40,.app .o 2 16 (.t 36) (.t 39),none,false⟩,
  ⟨some 5,.mv (.t 40),none,false⟩],[]⟩
@[simp] def r47_11 : AReg:=⟨[0,1,5,7,8],[],[
  ⟨some 6,.mv (.c (.dat (.bool true))),none,false⟩],[]⟩
@[simp] def r47_12 : AReg:=⟨[0,1,5,6,7,8],[],[
  ⟨some 41,.mv (.t 5),none,false⟩,
  ⟨some 42,.ld 2 true (.t 8),none,false⟩,
  ⟨some 43,.bldS .d 2 [(.t 42)],none,false⟩,
  ⟨some 44,.app .o 2 16 (.t 41) (.t 43),none,false⟩,
  ⟨some 5,.mv (.t 44),none,false⟩],[]⟩
@[simp] def r47_13 : AReg:=⟨[0,1,5,6,7],[],[
  ⟨some 14,.mv (.t 7),none,false⟩,
  ⟨some 15,.bin .int .add (.t 14) (.c (.dat (.int .i64 1))),none,false⟩,
  ⟨some 7,.mv (.t 15),none,false⟩],[]⟩
def l47_0 : AC:=.seq (.seq (.reg r47_4) (.cond (.t 13) (.skip) (.exit 0))) (.seq (.block 1 (.seq (.reg r47_5) (.seq (.seq (.reg r47_6) (.cond (.t 23) (.seq (.reg r47_7) (.reg r47_8)) (.skip))) (.seq (.seq (.reg r47_9) (.cond (.t 35) (.seq (.reg r47_10) (.reg r47_11)) (.skip))) (.reg r47_12))))) (.reg r47_13))
@[simp] theorem l47_0e (K : Orc) (s : St) : exec K l47_0 s = exec K (.seq (.seq (.reg r47_4) (.cond (.t 13) (.skip) (.exit 0))) (.seq (.block 1 (.seq (.reg r47_5) (.seq (.seq (.reg r47_6) (.cond (.t 23) (.seq (.reg r47_7) (.reg r47_8)) (.skip))) (.seq (.seq (.reg r47_9) (.cond (.t 35) (.seq (.reg r47_10) (.reg r47_11)) (.skip))) (.reg r47_12))))) (.reg r47_13))) s:=rfl
@[simp] def r47_14 : AReg:=⟨[1,5,6],[],[
  ⟨some 45,.mv (.t 6),none,false⟩,
  ⟨some 46,.un .not (.t 45),none,false⟩],[]⟩
@[simp] def r47_15 : AReg:=⟨[1,5],[],[
  ⟨some 47,.mv (.t 5),none,false⟩,
  ⟨some 48,.mv (.t 1),none,false⟩,
  ⟨some 49,.bld [(.dat (.int .i64 0)),(.dat (.int .i64 0))] [(0,1,(.t 48)),(1,1,(.c (.dat (.int .i64 1))))],none,false⟩,
  ⟨some 50,.bldS .d 2 [(.t 49)],none,false⟩,
  ⟨some 51,.app .o 2 16 (.t 47) (.t 50),none,false⟩,
  ⟨some 5,.mv (.t 51),none,false⟩],[]⟩
@[simp] def r47_16 : AReg:=⟨[5],[],[
  ⟨some 52,.mv (.t 5),none,false⟩,
  ⟨some 4,.mv (.t 52),none,false⟩],[]⟩
@[simp] def fn47 : AFun:=⟨2,[.t 4],false,
 .seq (.reg r47_0) (.seq (.reg r47_1) (.seq (.reg r47_2) (.seq (.seq (.reg r47_3) (.block 0 (.loop l47_0))) (.seq (.seq (.reg r47_14) (.cond (.t 46) (.reg r47_15) (.skip))) (.seq (.reg r47_16) (.ret)))))),none⟩
theorem c47 : cFun Tryz.prog ann47 false 47 = some fn47:=by kernel_rfl
def ann62 : Ann:=[{ id:=0,live:=[0] },
 { id:=1,live:=[1] }]
@[simp] def r62_0 : AReg:=⟨[0],[],[
  ⟨some 1,.box 9 (.t 0),none,false⟩,
  ⟨some 2,.mv (.c (.dat (.bool false))),none,false⟩],[]⟩
@[simp] def r62_1 : AReg:=⟨[1],[],[
  ⟨some 3,.fAddr 2 (.t 1),none,false⟩,
  ⟨some 4,.ld 1 false (.t 3),none,false⟩,
  ⟨some 5,.bin .int .eql (.t 4) (.c (.dat (.int .i64 2))),none,false⟩,
  ⟨some 6,.mv (.t 5),none,false⟩,
  ⟨some 7,.fAddr 2 (.t 1),some (6,false),false⟩,
  ⟨some 8,.ld 1 false (.t 7),some (6,false),false⟩,
  ⟨some 9,.bin .int .eql (.t 8) (.c (.dat (.int .i64 3))),some (6,false),false⟩,
  ⟨some 10,.pick (.t 6) (.c (.dat (.bool true))) (.t 9),none,false⟩,
  ⟨some 11,.mv (.t 10),none,false⟩,
  ⟨some 12,.fAddr 2 (.t 1),some (11,false),false⟩,
  ⟨some 13,.ld 1 false (.t 12),some (11,false),false⟩,
  ⟨some 14,.bin .int .eql (.t 13) (.c (.dat (.int .i64 5))),some (11,false),false⟩,
  ⟨some 15,.pick (.t 11) (.c (.dat (.bool true))) (.t 14),none,false⟩,
  ⟨some 2,.mv (.t 15),none,false⟩],[]⟩
@[simp] def fn62 : AFun:=⟨1,[.t 2],false,
 .seq (.reg r62_0) (.seq (.reg r62_1) (.ret)),none⟩
theorem c62 : cFun Tryz.prog ann62 false 62 = some fn62:=by kernel_rfl
def ann68 : Ann:=[{ id:=0,live:=[0] },
 { id:=1,live:=[1] }]
@[simp] def r68_0 : AReg:=⟨[0],[],[
  ⟨some 1,.box 9 (.t 0),none,false⟩,
  ⟨some 2,.mv (.c (.dat (.bool false))),none,false⟩],[]⟩
@[simp] def r68_1 : AReg:=⟨[1],[],[
  ⟨some 3,.fAddr 2 (.t 1),none,false⟩,
  ⟨some 4,.ld 1 false (.t 3),none,false⟩,
  ⟨some 5,.bin .int .eql (.t 4) (.c (.dat (.int .i64 2))),none,false⟩,
  ⟨some 6,.mv (.t 5),none,false⟩,
  ⟨some 7,.fAddr 2 (.t 1),some (6,false),false⟩,
  ⟨some 8,.ld 1 false (.t 7),some (6,false),false⟩,
  ⟨some 9,.bin .int .eql (.t 8) (.c (.dat (.int .i64 3))),some (6,false),false⟩,
  ⟨some 10,.pick (.t 6) (.c (.dat (.bool true))) (.t 9),none,false⟩,
  ⟨some 11,.mv (.t 10),none,false⟩,
  ⟨some 12,.fAddr 2 (.t 1),some (11,false),false⟩,
  ⟨some 13,.ld 1 false (.t 12),some (11,false),false⟩,
  ⟨some 14,.bin .int .eql (.t 13) (.c (.dat (.int .i64 5))),some (11,false),false⟩,
  ⟨some 15,.pick (.t 11) (.c (.dat (.bool true))) (.t 14),none,false⟩,
  ⟨some 2,.mv (.t 15),none,false⟩],[]⟩
@[simp] def fn68 : AFun:=⟨1,[.t 2],false,
 .seq (.reg r68_0) (.seq (.reg r68_1) (.ret)),none⟩
theorem c68 : cFun Tryz.prog ann68 false 68 = some fn68:=by kernel_rfl
def ann70 : Ann:=[{ id:=0,live:=[0,1] },
 { id:=1,live:=[0,1],marks:=[(2,{ byRef:=[1] })] }]
@[simp] def r70_0 : AReg:=⟨[0,1],[],[
  ⟨some 4,.mv (.c (.dat (.bool false))),none,false⟩],[]⟩
@[simp] def r70_1 : AReg:=⟨[0,1],[],[
  ⟨some 5,.mv (.t 0),none,false⟩,
  ⟨some 6,.mv (.t 1),none,false⟩,
  ⟨some 7,.call 118 [((.t 5),false),((.t 6),true)] true,none,false⟩,
  ⟨some 8,.bin .int .geq (.t 7) (.c (.dat (.int .i64 0))),none,false⟩,
  ⟨some 4,.mv (.t 8),none,false⟩],[]⟩
@[simp] def fn70 : AFun:=⟨2,[.t 4],false,
 .seq (.reg r70_0) (.seq (.reg r70_1) (.ret)),none⟩
theorem c70 : cFun Tryz.prog ann70 false 70 = some fn70:=by kernel_rfl
def ann71 : Ann:=[{ id:=0,live:=[0] },
 { id:=1,live:=[1] }]
@[simp] def r71_0 : AReg:=⟨[0],[],[
  ⟨some 1,.box 9 (.t 0),none,false⟩,
  ⟨some 2,.mv (.c (.dat (.bool false))),none,false⟩],[]⟩
@[simp] def r71_1 : AReg:=⟨[1],[],[
  ⟨some 3,.ld 9 true (.t 1),none,false⟩,
  ⟨some 4,.call 72 [((.t 3),false)] true,none,false⟩,
  ⟨some 5,.un .not (.t 4),none,false⟩,
  ⟨some 2,.mv (.t 5),none,false⟩],[]⟩
@[simp] def fn71 : AFun:=⟨1,[.t 2],false,
 .seq (.reg r71_0) (.seq (.reg r71_1) (.ret)),none⟩
theorem c71 : cFun Tryz.prog ann71 false 71 = some fn71:=by kernel_rfl
end Go.Am.W
