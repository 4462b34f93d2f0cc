/- Parts of the proofs of the statement, joined and made short: WCode2. -/
import Derived.Test.YtgaeajfoiigbkaaGreatDoorP3
set_option linter.unusedVariables false
set_option linter.unusedSimpArgs false
set_option linter.unusedSectionVars false
namespace Go.Am.W
open Go.Proofs
def ann72 : Ann:=[{ id:=0,live:=[0] },
 { id:=1,live:=[1] },
 { id:=2,live:=[] },
 { id:=3,live:=[1] },
 { id:=4,live:=[1,3] },
 { id:=5,live:=[] },
 { id:=6,live:=[1,3] },
 { id:=7,live:=[] },
 { id:=8,live:=[1,3] },
 { id:=9,live:=[] },
 { id:=10,live:=[1,3] },
 { id:=11,live:=[] },
 { id:=12,live:=[1] },
 { id:=13,live:=[1] },
 { id:=14,live:=[1] }]
@[simp] def r72_0 : AReg:=⟨[0],[],[
  ⟨some 1,.box 9 (.t 0),none,false⟩,
  ⟨some 2,.mv (.c (.dat (.bool false))),none,false⟩],[]⟩
@[simp] def r72_1 : AReg:=⟨[1],[],[
  ⟨some 4,.fAddr 2 (.t 1),none,false⟩,
  ⟨some 5,.ld 1 false (.t 4),none,false⟩,
  ⟨some 6,.bin .int .lss (.t 5) (.c (.dat (.int .i64 1))),none,false⟩,
  ⟨some 7,.mv (.t 6),none,false⟩,
  ⟨some 8,.fAddr 2 (.t 1),some (7,false),false⟩,
  ⟨some 9,.ld 1 false (.t 8),some (7,false),false⟩,
  ⟨some 10,.bin .int .gtr (.t 9) (.c (.dat (.int .i64 17))),some (7,false),false⟩,
  ⟨some 11,.pick (.t 7) (.c (.dat (.bool true))) (.t 10),none,false⟩,
  ⟨some 12,.mv (.t 11),none,false⟩,
  ⟨some 13,.fAddr 1 (.t 1),some (12,false),false⟩,
  ⟨some 14,.ld 1 false (.t 13),some (12,false),false⟩,
  ⟨some 15,.bin .int .lss (.t 14) (.c (.dat (.int .i64 0))),some (12,false),false⟩,
  ⟨some 16,.pick (.t 12) (.c (.dat (.bool true))) (.t 15),none,false⟩,
  ⟨some 17,.mv (.t 16),none,false⟩,
  ⟨some 18,.fAddr 0 (.t 1),some (17,false),false⟩,
  ⟨some 19,.ld 1 false (.t 18),some (17,false),false⟩,
  ⟨some 20,.call 119 [((.t 19),false)] true,some (17,false),true⟩,
  ⟨some 21,.fAddr 2 (.t 1),some (17,false),false⟩,
  ⟨some 22,.ld 1 false (.t 21),some (17,false),true⟩,
  ⟨some 23,.bin .int .eql (.t 22) (.c (.dat (.int .i64 4))),some (17,false),false⟩,
  ⟨some 24,.bin .bool .neq (.t 20) (.t 23),some (17,false),false⟩,
  ⟨some 25,.pick (.t 17) (.c (.dat (.bool true))) (.t 24),none,false⟩],[(16,18)]⟩
@[simp] def r72_2 : AReg:=⟨[],[],[
  ⟨some 2,.mv (.c (.dat (.bool false))),none,false⟩],[]⟩
@[simp] def r72_3 : AReg:=⟨[1],[],[
  ⟨some 26,.fAddr 2 (.t 1),none,false⟩,
  ⟨some 27,.ld 1 false (.t 26),none,false⟩,
  ⟨some 28,.bin .int .sub (.t 27) (.c (.dat (.int .i64 1))),none,false⟩,
  ⟨some 29,.iAddrA 17 8 (.c (.fp glob0)) (.t 28),none,false⟩,
  ⟨some 30,.ld 8 true (.t 29),none,false⟩,
  ⟨some 3,.alc [(.dat (.int .i64 0)),(.dat (.bool false)),(.dat (.int .i64 0)),(.dat (.int .i64 0)),(.dat (.bool false)),(.dat (.int .i64 0)),(.dat (.int .i64 0)),(.dat (.bool false))],none,false⟩,
  ⟨none,.st false 8 (.t 3) (.t 30),none,false⟩],[]⟩
@[simp] def r72_4 : AReg:=⟨[1,3],[],[
  ⟨some 31,.fAddr 3 (.t 1),none,false⟩,
  ⟨some 32,.ld 1 false (.t 31),none,false⟩,
  ⟨some 33,.bin .int .lss (.t 32) (.c (.dat (.int .i64 0))),none,false⟩,
  ⟨some 34,.mv (.t 33),none,false⟩,
  ⟨some 35,.fAddr 0 (.t 3),some (34,false),false⟩,
  ⟨some 36,.ld 1 false (.t 35),some (34,false),false⟩,
  ⟨some 37,.bin .int .neq (.t 36) (.c (.dat (.int .i64 (-1)))),some (34,false),false⟩,
  ⟨some 38,.mv (.t 37),some (34,false),false⟩,
  ⟨some 39,.fAddr 3 (.t 1),some (38,true),false⟩,
  ⟨some 40,.ld 1 false (.t 39),some (38,true),false⟩,
  ⟨some 41,.fAddr 0 (.t 3),some (38,true),false⟩,
  ⟨some 42,.ld 1 false (.t 41),some (38,true),false⟩,
  ⟨some 43,.bin .int .gtr (.t 40) (.t 42),some (38,true),false⟩,
  ⟨some 44,.pick (.t 38) (.t 43) (.c (.dat (.bool false))),some (34,false),false⟩,
  ⟨some 45,.pick (.t 34) (.c (.dat (.bool true))) (.t 44),none,false⟩,
  ⟨some 46,.mv (.t 45),none,false⟩,
  ⟨some 47,.fAddr 7 (.t 1),some (46,false),false⟩,
  ⟨some 48,.ld 1 false (.t 47),some (46,false),false⟩,
  ⟨some 49,.fAddr 2 (.t 3),some (46,false),false⟩,
  ⟨some 50,.ld 1 false (.t 49),some (46,false),false⟩,
  ⟨some 51,.bin .int .lss (.t 48) (.t 50),some (46,false),false⟩,
  ⟨some 52,.pick (.t 46) (.c (.dat (.bool true))) (.t 51),none,false⟩,
  ⟨some 53,.mv (.t 52),none,false⟩,
  ⟨some 54,.fAddr 3 (.t 3),some (53,false),false⟩,
  ⟨some 55,.ld 1 false (.t 54),some (53,false),false⟩,
  ⟨some 56,.bin .int .neq (.t 55) (.c (.dat (.int .i64 (-1)))),some (53,false),false⟩,
  ⟨some 57,.mv (.t 56),some (53,false),false⟩,
  ⟨some 58,.fAddr 7 (.t 1),some (57,true),false⟩,
  ⟨some 59,.ld 1 false (.t 58),some (57,true),false⟩,
  ⟨some 60,.fAddr 3 (.t 3),some (57,true),false⟩,
  ⟨some 61,.ld 1 false (.t 60),some (57,true),false⟩,
  ⟨some 62,.bin .int .gtr (.t 59) (.t 61),some (57,true),false⟩,
  ⟨some 63,.pick (.t 57) (.t 62) (.c (.dat (.bool false))),some (53,false),false⟩,
  ⟨some 64,.pick (.t 53) (.c (.dat (.bool true))) (.t 63),none,false⟩],[]⟩
@[simp] def r72_5 : AReg:=⟨[],[],[
  ⟨some 2,.mv (.c (.dat (.bool false))),none,false⟩],[]⟩
@[simp] def r72_6 : AReg:=⟨[1,3],[],[
  ⟨some 65,.fAddr 1 (.t 3),none,false⟩,
  ⟨some 66,.ld 1 false (.t 65),none,false⟩,
  ⟨some 67,.mv (.t 66),none,false⟩,
  ⟨some 68,.fAddr 6 (.t 1),some (67,true),false⟩,
  ⟨some 69,.ld 1 false (.t 68),some (67,true),false⟩,
  ⟨some 70,.bin .int .lss (.t 69) (.c (.dat (.int .i64 0))),some (67,true),false⟩,
  ⟨some 71,.mv (.t 70),some (67,true),false⟩,
  ⟨some 72,.fAddr 6 (.t 1),some (71,false),false⟩,
  ⟨some 73,.ld 1 false (.t 72),some (71,false),false⟩,
  ⟨some 74,.bin .int .gtr (.t 73) (.c (.dat (.int .i64 2))),some (71,false),false⟩,
  ⟨some 75,.pick (.t 71) (.c (.dat (.bool true))) (.t 74),some (67,true),false⟩,
  ⟨some 76,.pick (.t 67) (.t 75) (.c (.dat (.bool false))),none,false⟩,
  ⟨some 77,.mv (.t 76),none,false⟩,
  ⟨some 78,.fAddr 1 (.t 3),some (77,false),false⟩,
  ⟨some 79,.ld 1 false (.t 78),some (77,false),false⟩,
  ⟨some 80,.un .not (.t 79),some (77,false),false⟩,
  ⟨some 81,.mv (.t 80),some (77,false),false⟩,
  ⟨some 82,.fAddr 6 (.t 1),some (81,true),false⟩,
  ⟨some 83,.ld 1 false (.t 82),some (81,true),false⟩,
  ⟨some 84,.bin .int .neq (.t 83) (.c (.dat (.int .i64 0))),some (81,true),false⟩,
  ⟨some 85,.pick (.t 81) (.t 84) (.c (.dat (.bool false))),some (77,false),false⟩,
  ⟨some 86,.pick (.t 77) (.c (.dat (.bool true))) (.t 85),none,false⟩],[]⟩
@[simp] def r72_7 : AReg:=⟨[],[],[
  ⟨some 2,.mv (.c (.dat (.bool false))),none,false⟩],[]⟩
@[simp] def r72_8 : AReg:=⟨[1,3],[],[
  ⟨some 87,.fAddr 4 (.t 3),none,false⟩,
  ⟨some 88,.ld 1 false (.t 87),none,false⟩,
  ⟨some 89,.mv (.t 88),none,false⟩,
  ⟨some 90,.fAddr 8 (.t 1),some (89,true),false⟩,
  ⟨some 91,.ld 1 false (.t 90),some (89,true),false⟩,
  ⟨some 92,.bin .int .lss (.t 91) (.c (.dat (.int .i64 (-2147483648)))),some (89,true),false⟩,
  ⟨some 93,.mv (.t 92),some (89,true),false⟩,
  ⟨some 94,.fAddr 8 (.t 1),some (93,false),false⟩,
  ⟨some 95,.ld 1 false (.t 94),some (93,false),false⟩,
  ⟨some 96,.bin .int .gtr (.t 95) (.c (.dat (.int .i64 2147483647))),some (93,false),false⟩,
  ⟨some 97,.pick (.t 93) (.c (.dat (.bool true))) (.t 96),some (89,true),false⟩,
  ⟨some 98,.pick (.t 89) (.t 97) (.c (.dat (.bool false))),none,false⟩,
  ⟨some 99,.mv (.t 98),none,false⟩,
  ⟨some 100,.fAddr 4 (.t 3),some (99,false),false⟩,
  ⟨some 101,.ld 1 false (.t 100),some (99,false),false⟩,
  ⟨some 102,.un .not (.t 101),some (99,false),false⟩,
  ⟨some 103,.mv (.t 102),some (99,false),false⟩,
  ⟨some 104,.fAddr 8 (.t 1),some (103,true),false⟩,
  ⟨some 105,.ld 1 false (.t 104),some (103,true),false⟩,
  ⟨some 106,.bin .int .neq (.t 105) (.c (.dat (.int .i64 0))),some (103,true),false⟩,
  ⟨some 107,.pick (.t 103) (.t 106) (.c (.dat (.bool false))),some (99,false),false⟩,
  ⟨some 108,.pick (.t 99) (.c (.dat (.bool true))) (.t 107),none,false⟩],[]⟩
@[simp] def r72_9 : AReg:=⟨[],[],[
  ⟨some 2,.mv (.c (.dat (.bool false))),none,false⟩],[]⟩
@[simp] def r72_10 : AReg:=⟨[1,3],[],[
  ⟨some 109,.fAddr 5 (.t 3),none,false⟩,
  ⟨some 110,.ld 1 false (.t 109),none,false⟩,
  ⟨some 111,.bin .int .eql (.t 110) (.c (.dat (.int .i64 (-2)))),none,false⟩,
  ⟨some 112,.mv (.t 111),none,false⟩,
  ⟨some 113,.fAddr 5 (.t 1),some (112,true),false⟩,
  ⟨some 114,.ld 1 false (.t 113),some (112,true),false⟩,
  ⟨some 115,.bin .int .neq (.t 114) (.c (.dat (.int .i64 (-1)))),some (112,true),false⟩,
  ⟨some 116,.pick (.t 112) (.t 115) (.c (.dat (.bool false))),none,false⟩,
  ⟨some 117,.mv (.t 116),none,false⟩,
  ⟨some 118,.fAddr 5 (.t 1),some (117,false),false⟩,
  ⟨some 119,.ld 1 false (.t 118),some (117,false),false⟩,
  ⟨some 120,.fAddr 5 (.t 3),some (117,false),false⟩,
  ⟨some 121,.ld 1 false (.t 120),some (117,false),false⟩,
  ⟨some 122,.bin .int .lss (.t 119) (.t 121),some (117,false),false⟩,
  ⟨some 123,.pick (.t 117) (.c (.dat (.bool true))) (.t 122),none,false⟩],[]⟩
@[simp] def r72_11 : AReg:=⟨[],[],[
  ⟨some 2,.mv (.c (.dat (.bool false))),none,false⟩],[]⟩
@[simp] def r72_12 : AReg:=⟨[1],[],[
  ⟨some 124,.fAddr 2 (.t 1),none,false⟩,
  ⟨some 125,.ld 1 false (.t 124),none,false⟩,
  ⟨some 126,.bin .int .eql (.t 125) (.c (.dat (.int .i64 12))),none,false⟩],[]⟩
@[simp] def r72_13 : AReg:=⟨[1],[],[
  ⟨some 127,.fAddr 4 (.t 1),none,false⟩,
  ⟨some 128,.ld 1 false (.t 127),none,false⟩,
  ⟨some 129,.bin .int .geq (.t 128) (.c (.dat (.int .i64 0))),none,false⟩,
  ⟨some 130,.mv (.t 129),none,false⟩,
  ⟨some 131,.fAddr 4 (.t 1),some (130,true),false⟩,
  ⟨some 132,.ld 1 false (.t 131),some (130,true),false⟩,
  ⟨some 133,.bin .int .lss (.t 132) (.c (.dat (.int .i64 4))),some (130,true),false⟩,
  ⟨some 134,.pick (.t 130) (.t 133) (.c (.dat (.bool false))),none,false⟩,
  ⟨some 2,.mv (.t 134),none,false⟩],[]⟩
@[simp] def r72_14 : AReg:=⟨[1],[],[
  ⟨some 135,.fAddr 4 (.t 1),none,false⟩,
  ⟨some 136,.ld 1 false (.t 135),none,false⟩,
  ⟨some 137,.bin .int .eql (.t 136) (.c (.dat (.int .i64 (-1)))),none,false⟩,
  ⟨some 2,.mv (.t 137),none,false⟩],[]⟩
@[simp] def fn72 : AFun:=⟨1,[.t 2],false,
 .seq (.reg r72_0) (.seq (.seq (.reg r72_1) (.cond (.t 25) (.seq (.reg r72_2) (.ret)) (.skip))) (.seq (.reg r72_3) (.seq (.seq (.reg r72_4) (.cond (.t 64) (.seq (.reg r72_5) (.ret)) (.skip))) (.seq (.seq (.reg r72_6) (.cond (.t 86) (.seq (.reg r72_7) (.ret)) (.skip))) (.seq (.seq (.reg r72_8) (.cond (.t 108) (.seq (.reg r72_9) (.ret)) (.skip))) (.seq (.seq (.reg r72_10) (.cond (.t 123) (.seq (.reg r72_11) (.ret)) (.skip))) (.seq (.seq (.reg r72_12) (.cond (.t 126) (.seq (.reg r72_13) (.ret)) (.skip))) (.seq (.reg r72_14) (.ret))))))))),none⟩
theorem c72 : cFun Tryz.prog ann72 false 72 = some fn72:=by kernel_rfl
def ann73 : Ann:=[{ id:=0,live:=[0] },
 { id:=1,live:=[1] },
 { id:=2,live:=[] },
 { id:=3,live:=[1] },
 { id:=4,live:=[7] },
 { id:=5,live:=[7] },
 { id:=6,live:=[7] },
 { id:=7,live:=[7] },
 { id:=8,live:=[] },
 { id:=9,live:=[] }]
@[simp] def r73_0 : AReg:=⟨[0],[],[
  ⟨some 1,.box 9 (.t 0),none,false⟩,
  ⟨some 2,.mv (.c (.dat (.bool false))),none,false⟩],[]⟩
@[simp] def r73_1 : AReg:=⟨[1],[],[
  ⟨some 3,.ld 9 true (.t 1),none,false⟩,
  ⟨some 4,.call 72 [((.t 3),false)] true,none,false⟩,
  ⟨some 5,.un .not (.t 4),none,false⟩],[]⟩
@[simp] def r73_2 : AReg:=⟨[],[],[
  ⟨some 2,.mv (.c (.dat (.bool false))),none,false⟩],[]⟩
@[simp] def r73_3 : AReg:=⟨[1],[],[
  ⟨some 6,.fAddr 2 (.t 1),none,false⟩,
  ⟨some 7,.ld 1 false (.t 6),none,false⟩],[]⟩
@[simp] def r73_4 : AReg:=⟨[7],[],[
  ⟨some 9,.bin .int .eql (.t 7) (.c (.dat (.int .i64 1))),none,false⟩,
  ⟨some 8,.mv (.t 9),none,false⟩],[]⟩
@[simp] def r73_5 : AReg:=⟨[7],[],[
  ⟨some 10,.bin .int .eql (.t 7) (.c (.dat (.int .i64 8))),none,false⟩,
  ⟨some 8,.mv (.t 10),none,false⟩],[]⟩
@[simp] def r73_6 : AReg:=⟨[7],[],[
  ⟨some 11,.bin .int .eql (.t 7) (.c (.dat (.int .i64 5))),none,false⟩,
  ⟨some 8,.mv (.t 11),none,false⟩],[]⟩
@[simp] def r73_7 : AReg:=⟨[7],[],[
  ⟨some 12,.bin .int .eql (.t 7) (.c (.dat (.int .i64 6))),none,false⟩,
  ⟨some 8,.mv (.t 12),none,false⟩],[]⟩
@[simp] def r73_8 : AReg:=⟨[],[],[
  ⟨some 2,.mv (.c (.dat (.bool true))),none,false⟩],[]⟩
@[simp] def r73_9 : AReg:=⟨[],[],[
  ⟨some 2,.mv (.c (.dat (.bool false))),none,false⟩],[]⟩
@[simp] def fn73 : AFun:=⟨1,[.t 2],false,
 .seq (.reg r73_0) (.seq (.seq (.reg r73_1) (.cond (.t 5) (.seq (.reg r73_2) (.ret)) (.skip))) (.seq (.seq (.reg r73_3) (.block 0 (.seq (.seq (.reg r73_4) (.cond (.t 8) (.skip) (.seq (.reg r73_5) (.cond (.t 8) (.skip) (.seq (.reg r73_6) (.cond (.t 8) (.skip) (.reg r73_7))))))) (.cond (.t 8) (.seq (.reg r73_8) (.ret)) (.skip))))) (.seq (.reg r73_9) (.ret)))),none⟩
theorem c73 : cFun Tryz.prog ann73 false 73 = some fn73:=by kernel_rfl
def ann74 : Ann:=[{ id:=0,live:=[0,1,2,3] },
 { id:=1,live:=[0,1,2,3] },
 { id:=2,live:=[0,2,3,9] },
 { id:=4,live:=[0,2,3,9] },
 { id:=5,live:=[9] },
 { id:=3,live:=[0,2,3,9] },
 { id:=6,live:=[] }]
@[simp] def r74_0 : AReg:=⟨[0,1,2,3],[],[
  ⟨some 8,.mv (.c (.dat (.int .i64 0))),none,false⟩],[]⟩
@[simp] def r74_1 : AReg:=⟨[0,1,2,3],[],[
  ⟨some 10,.mv (.t 1),none,false⟩,
  ⟨some 11,.bin .int .sub (.t 10) (.c (.dat (.int .i64 1))),none,false⟩,
  ⟨some 9,.mv (.t 11),none,false⟩],[]⟩
@[simp] def r74_2 : AReg:=⟨[0,2,3,9],[],[
  ⟨some 12,.mv (.t 9),none,false⟩,
  ⟨some 13,.bin .int .geq (.t 12) (.c (.dat (.int .i64 0))),none,false⟩],[]⟩
@[simp] def r74_3 : AReg:=⟨[0,2,3,9],[],[
  ⟨some 16,.mv (.t 0),none,false⟩,
  ⟨some 17,.mv (.t 9),none,false⟩,
  ⟨some 18,.iAddr 9 (.t 16) (.t 17),none,false⟩,
  ⟨some 19,.fAddr 2 (.t 18),none,false⟩,
  ⟨some 20,.ld 1 false (.t 19),none,false⟩,
  ⟨some 21,.bin .int .eql (.t 20) (.c (.dat (.int .i64 3))),none,false⟩,
  ⟨some 22,.mv (.t 21),none,false⟩,
  ⟨some 23,.mv (.t 0),some (22,true),false⟩,
  ⟨some 24,.mv (.t 9),some (22,true),false⟩,
  ⟨some 25,.iAddr 9 (.t 23) (.t 24),some (22,true),false⟩,
  ⟨some 26,.fAddr 0 (.t 25),some (22,true),false⟩,
  ⟨some 27,.ld 1 false (.t 26),some (22,true),false⟩,
  ⟨some 28,.mv (.t 2),some (22,true),false⟩,
  ⟨some 29,.bin .int .eql (.t 27) (.t 28),some (22,true),false⟩,
  ⟨some 30,.pick (.t 22) (.t 29) (.c (.dat (.bool false))),none,false⟩,
  ⟨some 31,.mv (.t 30),none,false⟩,
  ⟨some 32,.mv (.t 0),some (31,true),false⟩,
  ⟨some 33,.mv (.t 9),some (31,true),false⟩,
  ⟨some 34,.iAddr 9 (.t 32) (.t 33),some (31,true),false⟩,
  ⟨some 35,.fAddr 5 (.t 34),some (31,true),false⟩,
  ⟨some 36,.ld 1 false (.t 35),some (31,true),false⟩,
  ⟨some 37,.mv (.t 3),some (31,true),false⟩,
  ⟨some 38,.bin .int .eql (.t 36) (.t 37),some (31,true),false⟩,
  ⟨some 39,.pick (.t 31) (.t 38) (.c (.dat (.bool false))),none,false⟩],[]⟩
@[simp] def r74_4 : AReg:=⟨[9],[],[
  ⟨some 40,.mv (.t 9),none,false⟩,
  ⟨some 8,.mv (.t 40),none,false⟩],[]⟩
@[simp] def r74_5 : AReg:=⟨[0,2,3,9],[],[
  ⟨some 14,.mv (.t 9),none,false⟩,
  ⟨some 15,.bin .int .sub (.t 14) (.c (.dat (.int .i64 1))),none,false⟩,
  ⟨some 9,.mv (.t 15),none,false⟩],[]⟩
def l74_0 : AC:=.seq (.seq (.reg r74_2) (.cond (.t 13) (.skip) (.exit 0))) (.seq (.block 1 (.seq (.reg r74_3) (.cond (.t 39) (.seq (.reg r74_4) (.ret)) (.skip)))) (.reg r74_5))
@[simp] theorem l74_0e (K : Orc) (s : St) : exec K l74_0 s = exec K (.seq (.seq (.reg r74_2) (.cond (.t 13) (.skip) (.exit 0))) (.seq (.block 1 (.seq (.reg r74_3) (.cond (.t 39) (.seq (.reg r74_4) (.ret)) (.skip)))) (.reg r74_5))) s:=rfl
@[simp] def r74_6 : AReg:=⟨[],[],[
  ⟨some 8,.mv (.c (.dat (.int .i64 (-1)))),none,false⟩],[]⟩
@[simp] def fn74 : AFun:=⟨4,[.t 8],false,
 .seq (.reg r74_0) (.seq (.seq (.reg r74_1) (.block 0 (.loop l74_0))) (.seq (.reg r74_6) (.ret))),none⟩
theorem c74 : cFun Tryz.prog ann74 false 74 = some fn74:=by kernel_rfl
def ann75 : Ann:=[{ id:=0,live:=[0] },
 { id:=1,live:=[1] },
 { id:=2,live:=[] },
 { id:=3,live:=[1] },
 { id:=4,live:=[7] },
 { id:=5,live:=[7] },
 { id:=6,live:=[7] },
 { id:=7,live:=[] },
 { id:=8,live:=[] }]
@[simp] def r75_0 : AReg:=⟨[0],[],[
  ⟨some 1,.box 9 (.t 0),none,false⟩,
  ⟨some 2,.mv (.c (.dat (.bool false))),none,false⟩],[]⟩
@[simp] def r75_1 : AReg:=⟨[1],[],[
  ⟨some 3,.ld 9 true (.t 1),none,false⟩,
  ⟨some 4,.call 72 [((.t 3),false)] true,none,false⟩,
  ⟨some 5,.un .not (.t 4),none,false⟩],[]⟩
@[simp] def r75_2 : AReg:=⟨[],[],[
  ⟨some 2,.mv (.c (.dat (.bool false))),none,false⟩],[]⟩
@[simp] def r75_3 : AReg:=⟨[1],[],[
  ⟨some 6,.fAddr 2 (.t 1),none,false⟩,
  ⟨some 7,.ld 1 false (.t 6),none,false⟩],[]⟩
@[simp] def r75_4 : AReg:=⟨[7],[],[
  ⟨some 9,.bin .int .eql (.t 7) (.c (.dat (.int .i64 2))),none,false⟩,
  ⟨some 8,.mv (.t 9),none,false⟩],[]⟩
@[simp] def r75_5 : AReg:=⟨[7],[],[
  ⟨some 10,.bin .int .eql (.t 7) (.c (.dat (.int .i64 5))),none,false⟩,
  ⟨some 8,.mv (.t 10),none,false⟩],[]⟩
@[simp] def r75_6 : AReg:=⟨[7],[],[
  ⟨some 11,.bin .int .eql (.t 7) (.c (.dat (.int .i64 4))),none,false⟩,
  ⟨some 8,.mv (.t 11),none,false⟩],[]⟩
@[simp] def r75_7 : AReg:=⟨[],[],[
  ⟨some 2,.mv (.c (.dat (.bool true))),none,false⟩],[]⟩
@[simp] def r75_8 : AReg:=⟨[],[],[
  ⟨some 2,.mv (.c (.dat (.bool false))),none,false⟩],[]⟩
@[simp] def fn75 : AFun:=⟨1,[.t 2],false,
 .seq (.reg r75_0) (.seq (.seq (.reg r75_1) (.cond (.t 5) (.seq (.reg r75_2) (.ret)) (.skip))) (.seq (.seq (.reg r75_3) (.block 0 (.seq (.seq (.reg r75_4) (.cond (.t 8) (.skip) (.seq (.reg r75_5) (.cond (.t 8) (.skip) (.reg r75_6))))) (.cond (.t 8) (.seq (.reg r75_7) (.ret)) (.skip))))) (.seq (.reg r75_8) (.ret)))),none⟩
theorem c75 : cFun Tryz.prog ann75 false 75 = some fn75:=by kernel_rfl
def ann76 : Ann:=[{ id:=0,live:=[0] },
 { id:=1,live:=[0] },
 { id:=2,live:=[0] },
 { id:=3,live:=[0] }]
@[simp] def r76_0 : AReg:=⟨[0],[],[
  ⟨some 2,.mv (.c (.dat (.int .i64 0))),none,false⟩],[]⟩
@[simp] def r76_1 : AReg:=⟨[0],[],[
  ⟨some 3,.mv (.t 0),none,false⟩,
  ⟨some 4,.bin .int .lss (.t 3) (.c (.dat (.int .i64 0))),none,false⟩],[]⟩
@[simp] def r76_2 : AReg:=⟨[0],[],[
  ⟨some 5,.mv (.t 0),none,false⟩,
  ⟨some 6,.bin .int .add (.t 5) (.c (.dat (.int .i64 1))),none,false⟩,
  ⟨some 7,.un .neg (.t 6),none,false⟩,
  ⟨some 2,.mv (.t 7),none,false⟩],[]⟩
@[simp] def r76_3 : AReg:=⟨[0],[],[
  ⟨some 8,.mv (.t 0),none,false⟩,
  ⟨some 2,.mv (.t 8),none,false⟩],[]⟩
@[simp] def fn76 : AFun:=⟨1,[.t 2],false,
 .seq (.reg r76_0) (.seq (.seq (.reg r76_1) (.cond (.t 4) (.seq (.reg r76_2) (.ret)) (.skip))) (.seq (.reg r76_3) (.ret))),none⟩
theorem c76 : cFun Tryz.prog ann76 false 76 = some fn76:=by kernel_rfl
def ann77 : Ann:=[{ id:=0,live:=[0] },
 { id:=1,live:=[1] },
 { id:=2,live:=[] },
 { id:=3,live:=[1] },
 { id:=4,live:=[] },
 { id:=5,live:=[1] },
 { id:=6,live:=[1] },
 { id:=7,live:=[1] }]
@[simp] def r77_0 : AReg:=⟨[0],[],[
  ⟨some 1,.box 9 (.t 0),none,false⟩,
  ⟨some 2,.mv (.c (.dat (.bool false))),none,false⟩],[]⟩
@[simp] def r77_1 : AReg:=⟨[1],[],[
  ⟨some 3,.fAddr 2 (.t 1),none,false⟩,
  ⟨some 4,.ld 1 false (.t 3),none,false⟩,
  ⟨some 5,.bin .int .lss (.t 4) (.c (.dat (.int .i64 1))),none,false⟩,
  ⟨some 6,.mv (.t 5),none,false⟩,
  ⟨some 7,.fAddr 2 (.t 1),some (6,false),false⟩,
  ⟨some 8,.ld 1 false (.t 7),some (6,false),false⟩,
  ⟨some 9,.bin .int .gtr (.t 8) (.c (.dat (.int .i64 17))),some (6,false),false⟩,
  ⟨some 10,.pick (.t 6) (.c (.dat (.bool true))) (.t 9),none,false⟩,
  ⟨some 11,.mv (.t 10),none,false⟩,
  ⟨some 12,.fAddr 0 (.t 1),some (11,false),false⟩,
  ⟨some 13,.ld 1 false (.t 12),some (11,false),false⟩,
  ⟨some 14,.call 120 [((.t 13),false)] true,some (11,false),true⟩,
  ⟨some 15,.fAddr 2 (.t 1),some (11,false),false⟩,
  ⟨some 16,.ld 1 false (.t 15),some (11,false),true⟩,
  ⟨some 17,.bin .int .eql (.t 16) (.c (.dat (.int .i64 4))),some (11,false),false⟩,
  ⟨some 18,.bin .bool .neq (.t 14) (.t 17),some (11,false),false⟩,
  ⟨some 19,.pick (.t 11) (.c (.dat (.bool true))) (.t 18),none,false⟩,
  ⟨some 20,.mv (.t 19),none,false⟩,
  ⟨some 21,.fAddr 1 (.t 1),some (20,false),false⟩,
  ⟨some 22,.ld 1 false (.t 21),some (20,false),false⟩,
  ⟨some 23,.bin .int .lss (.t 22) (.c (.dat (.int .i64 0))),some (20,false),false⟩,
  ⟨some 24,.pick (.t 20) (.c (.dat (.bool true))) (.t 23),none,false⟩,
  ⟨some 25,.mv (.t 24),none,false⟩,
  ⟨some 26,.ld 9 true (.t 1),some (25,false),false⟩,
  ⟨some 27,.call 121 [((.t 26),false)] true,some (25,false),false⟩,
  ⟨some 28,.un .not (.t 27),some (25,false),false⟩,
  ⟨some 29,.pick (.t 25) (.c (.dat (.bool true))) (.t 28),none,false⟩,
  ⟨some 30,.mv (.t 29),none,false⟩,
  ⟨some 31,.ld 9 true (.t 1),some (30,false),false⟩,
  ⟨some 32,.call 122 [((.t 31),false)] true,some (30,false),false⟩,
  ⟨some 33,.un .not (.t 32),some (30,false),false⟩,
  ⟨some 34,.pick (.t 30) (.c (.dat (.bool true))) (.t 33),none,false⟩,
  ⟨some 35,.mv (.t 34),none,false⟩,
  ⟨some 36,.ld 9 true (.t 1),some (35,false),false⟩,
  ⟨some 37,.call 123 [((.t 36),false)] true,some (35,false),false⟩,
  ⟨some 38,.un .not (.t 37),some (35,false),false⟩,
  ⟨some 39,.pick (.t 35) (.c (.dat (.bool true))) (.t 38),none,false⟩],[(11,13)]⟩
@[simp] def r77_2 : AReg:=⟨[],[],[
  ⟨some 2,.mv (.c (.dat (.bool false))),none,false⟩],[]⟩
@[simp] def r77_3 : AReg:=⟨[1],[],[
  ⟨some 40,.fAddr 6 (.t 1),none,false⟩,
  ⟨some 41,.ld 1 false (.t 40),none,false⟩,
  ⟨some 42,.bin .int .lss (.t 41) (.c (.dat (.int .i64 0))),none,false⟩,
  ⟨some 43,.mv (.t 42),none,false⟩,
  ⟨some 44,.fAddr 6 (.t 1),some (43,false),false⟩,
  ⟨some 45,.ld 1 false (.t 44),some (43,false),false⟩,
  ⟨some 46,.bin .int .gtr (.t 45) (.c (.dat (.int .i64 2))),some (43,false),false⟩,
  ⟨some 47,.pick (.t 43) (.c (.dat (.bool true))) (.t 46),none,false⟩,
  ⟨some 48,.mv (.t 47),none,false⟩,
  ⟨some 49,.fAddr 2 (.t 1),some (48,false),false⟩,
  ⟨some 50,.ld 1 false (.t 49),some (48,false),false⟩,
  ⟨some 51,.call 124 [((.t 50),false)] true,some (48,false),false⟩,
  ⟨some 52,.un .not (.t 51),some (48,false),false⟩,
  ⟨some 53,.mv (.t 52),some (48,false),false⟩,
  ⟨some 54,.fAddr 6 (.t 1),some (53,true),false⟩,
  ⟨some 55,.ld 1 false (.t 54),some (53,true),false⟩,
  ⟨some 56,.bin .int .neq (.t 55) (.c (.dat (.int .i64 0))),some (53,true),false⟩,
  ⟨some 57,.pick (.t 53) (.t 56) (.c (.dat (.bool false))),some (48,false),false⟩,
  ⟨some 58,.pick (.t 48) (.c (.dat (.bool true))) (.t 57),none,false⟩,
  ⟨some 59,.mv (.t 58),none,false⟩,
  ⟨some 60,.fAddr 8 (.t 1),some (59,false),false⟩,
  ⟨some 61,.ld 1 false (.t 60),some (59,false),false⟩,
  ⟨some 62,.call 125 [((.t 61),false)] true,some (59,false),false⟩,
  ⟨some 63,.un .not (.t 62),some (59,false),false⟩,
  ⟨some 64,.pick (.t 59) (.c (.dat (.bool true))) (.t 63),none,false⟩,
  ⟨some 65,.mv (.t 64),none,false⟩,
  ⟨some 66,.fAddr 2 (.t 1),some (65,false),false⟩,
  ⟨some 67,.ld 1 false (.t 66),some (65,false),false⟩,
  ⟨some 68,.call 126 [((.t 67),false)] true,some (65,false),false⟩,
  ⟨some 69,.un .not (.t 68),some (65,false),false⟩,
  ⟨some 70,.mv (.t 69),some (65,false),false⟩,
  ⟨some 71,.fAddr 8 (.t 1),some (70,true),false⟩,
  ⟨some 72,.ld 1 false (.t 71),some (70,true),false⟩,
  ⟨some 73,.bin .int .neq (.t 72) (.c (.dat (.int .i64 0))),some (70,true),false⟩,
  ⟨some 74,.pick (.t 70) (.t 73) (.c (.dat (.bool false))),some (65,false),false⟩,
  ⟨some 75,.pick (.t 65) (.c (.dat (.bool true))) (.t 74),none,false⟩],[]⟩
@[simp] def r77_4 : AReg:=⟨[],[],[
  ⟨some 2,.mv (.c (.dat (.bool false))),none,false⟩],[]⟩
@[simp] def r77_5 : AReg:=⟨[1],[],[
  ⟨some 76,.fAddr 2 (.t 1),none,false⟩,
  ⟨some 77,.ld 1 false (.t 76),none,false⟩,
  ⟨some 78,.bin .int .eql (.t 77) (.c (.dat (.int .i64 12))),none,false⟩],[]⟩
@[simp] def r77_6 : AReg:=⟨[1],[],[
  ⟨some 79,.fAddr 4 (.t 1),none,false⟩,
  ⟨some 80,.ld 1 false (.t 79),none,false⟩,
  ⟨some 81,.call 127 [((.t 80),false),((.c (.dat (.int .i64 4))),false)] true,none,false⟩,
  ⟨some 2,.mv (.t 81),none,false⟩],[]⟩
@[simp] def r77_7 : AReg:=⟨[1],[],[
  ⟨some 82,.fAddr 4 (.t 1),none,false⟩,
  ⟨some 83,.ld 1 false (.t 82),none,false⟩,
  ⟨some 84,.bin .int .eql (.t 83) (.c (.dat (.int .i64 (-1)))),none,false⟩,
  ⟨some 2,.mv (.t 84),none,false⟩],[]⟩
@[simp] def fn77 : AFun:=⟨1,[.t 2],false,
 .seq (.reg r77_0) (.seq (.seq (.reg r77_1) (.cond (.t 39) (.seq (.reg r77_2) (.ret)) (.skip))) (.seq (.seq (.reg r77_3) (.cond (.t 75) (.seq (.reg r77_4) (.ret)) (.skip))) (.seq (.seq (.reg r77_5) (.cond (.t 78) (.seq (.reg r77_6) (.ret)) (.skip))) (.seq (.reg r77_7) (.ret))))),none⟩
theorem c77 : cFun Tryz.prog ann77 false 77 = some fn77:=by kernel_rfl
def ann78 : Ann:=[{ id:=0,live:=[0] },
 { id:=1,live:=[1] }]
@[simp] def r78_0 : AReg:=⟨[0],[],[
  ⟨some 1,.box 9 (.t 0),none,false⟩,
  ⟨some 2,.mv (.c (.dat (.bool false))),none,false⟩],[]⟩
@[simp] def r78_1 : AReg:=⟨[1],[],[
  ⟨some 3,.ld 9 true (.t 1),none,false⟩,
  ⟨some 4,.call 77 [((.t 3),false)] true,none,false⟩,
  ⟨some 5,.mv (.t 4),none,false⟩,
  ⟨some 6,.fAddr 2 (.t 1),some (5,true),false⟩,
  ⟨some 7,.ld 1 false (.t 6),some (5,true),false⟩,
  ⟨some 8,.call 128 [((.t 7),false)] true,some (5,true),false⟩,
  ⟨some 9,.pick (.t 5) (.t 8) (.c (.dat (.bool false))),none,false⟩,
  ⟨some 2,.mv (.t 9),none,false⟩],[]⟩
@[simp] def fn78 : AFun:=⟨1,[.t 2],false,
 .seq (.reg r78_0) (.seq (.reg r78_1) (.ret)),none⟩
theorem c78 : cFun Tryz.prog ann78 false 78 = some fn78:=by kernel_rfl
def ann79 : Ann:=[{ id:=0,live:=[0,1,2,3,4] },
 { id:=1,live:=[0,1,2,3,4] },
 { id:=2,live:=[0,2,3,4,11] },
 { id:=4,live:=[0,2,3,4,11] },
 { id:=5,live:=[11] },
 { id:=3,live:=[0,2,3,4,11] },
 { id:=6,live:=[4] }]
@[simp] def r79_0 : AReg:=⟨[0,1,2,3,4],[],[
  ⟨some 10,.mv (.c (.dat (.int .i64 0))),none,false⟩],[]⟩
@[simp] def r79_1 : AReg:=⟨[0,1,2,3,4],[],[
  ⟨some 12,.mv (.t 1),none,false⟩,
  ⟨some 13,.bin .int .sub (.t 12) (.c (.dat (.int .i64 1))),none,false⟩,
  ⟨some 11,.mv (.t 13),none,false⟩],[]⟩
@[simp] def r79_2 : AReg:=⟨[0,2,3,4,11],[],[
  ⟨some 14,.mv (.t 11),none,false⟩,
  ⟨some 15,.bin .int .geq (.t 14) (.c (.dat (.int .i64 0))),none,false⟩],[]⟩
@[simp] def r79_3 : AReg:=⟨[0,2,3,4,11],[],[
  ⟨some 18,.mv (.t 0),none,false⟩,
  ⟨some 19,.mv (.t 11),none,false⟩,
  ⟨some 20,.iAddr 9 (.t 18) (.t 19),none,false⟩,
  ⟨some 21,.fAddr 2 (.t 20),none,false⟩,
  ⟨some 22,.ld 1 false (.t 21),none,false⟩,
  ⟨some 23,.bin .int .eql (.t 22) (.c (.dat (.int .i64 3))),none,false⟩,
  ⟨some 24,.mv (.t 23),none,false⟩,
  ⟨some 25,.mv (.t 0),some (24,true),false⟩,
  ⟨some 26,.mv (.t 11),some (24,true),false⟩,
  ⟨some 27,.iAddr 9 (.t 25) (.t 26),some (24,true),false⟩,
  ⟨some 28,.fAddr 0 (.t 27),some (24,true),false⟩,
  ⟨some 29,.ld 1 false (.t 28),some (24,true),false⟩,
  ⟨some 30,.mv (.t 2),some (24,true),false⟩,
  ⟨some 31,.bin .int .eql (.t 29) (.t 30),some (24,true),false⟩,
  ⟨some 32,.pick (.t 24) (.t 31) (.c (.dat (.bool false))),none,false⟩,
  ⟨some 33,.mv (.t 32),none,false⟩,
  ⟨some 34,.mv (.t 0),some (33,true),false⟩,
  ⟨some 35,.mv (.t 11),some (33,true),false⟩,
  ⟨some 36,.iAddr 9 (.t 34) (.t 35),some (33,true),false⟩,
  ⟨some 37,.fAddr 5 (.t 36),some (33,true),false⟩,
  ⟨some 38,.ld 1 false (.t 37),some (33,true),false⟩,
  ⟨some 39,.mv (.t 3),some (33,true),false⟩,
  ⟨some 40,.bin .int .eql (.t 38) (.t 39),some (33,true),false⟩,
  ⟨some 41,.pick (.t 33) (.t 40) (.c (.dat (.bool false))),none,false⟩],[]⟩
@[simp] def r79_4 : AReg:=⟨[11],[],[
  ⟨some 42,.mv (.t 11),none,false⟩,
  ⟨some 10,.mv (.t 42),none,false⟩],[]⟩
@[simp] def r79_5 : AReg:=⟨[0,2,3,4,11],[],[
  ⟨some 16,.mv (.t 11),none,false⟩,
  ⟨some 17,.bin .int .sub (.t 16) (.c (.dat (.int .i64 1))),none,false⟩,
  ⟨some 11,.mv (.t 17),none,false⟩],[]⟩
def l79_0 : AC:=.seq (.seq (.reg r79_2) (.cond (.t 15) (.skip) (.exit 0))) (.seq (.block 1 (.seq (.reg r79_3) (.cond (.t 41) (.seq (.reg r79_4) (.ret)) (.skip)))) (.reg r79_5))
@[simp] theorem l79_0e (K : Orc) (s : St) : exec K l79_0 s = exec K (.seq (.seq (.reg r79_2) (.cond (.t 15) (.skip) (.exit 0))) (.seq (.block 1 (.seq (.reg r79_3) (.cond (.t 41) (.seq (.reg r79_4) (.ret)) (.skip)))) (.reg r79_5))) s:=rfl
@[simp] def r79_6 : AReg:=⟨[4],[],[
  ⟨some 43,.mv (.t 4),none,false⟩,
  ⟨some 10,.mv (.t 43),none,false⟩],[]⟩
@[simp] def fn79 : AFun:=⟨5,[.t 10],false,
 .seq (.reg r79_0) (.seq (.seq (.reg r79_1) (.block 0 (.loop l79_0))) (.seq (.reg r79_6) (.ret))),none⟩
theorem c79 : cFun Tryz.prog ann79 false 79 = some fn79:=by kernel_rfl
def ann80 : Ann:=[{ id:=0,live:=[0] },
 { id:=1,live:=[1] }]
@[simp] def r80_0 : AReg:=⟨[0],[],[
  ⟨some 1,.box 9 (.t 0),none,false⟩,
  ⟨some 2,.mv (.c (.dat (.bool false))),none,false⟩],[]⟩
@[simp] def r80_1 : AReg:=⟨[1],[],[
  ⟨some 3,.ld 9 true (.t 1),none,false⟩,
  ⟨some 4,.call 77 [((.t 3),false)] true,none,false⟩,
  ⟨some 5,.mv (.t 4),none,false⟩,
  ⟨some 6,.fAddr 2 (.t 1),some (5,true),false⟩,
  ⟨some 7,.ld 1 false (.t 6),some (5,true),false⟩,
  ⟨some 8,.bin .int .eql (.t 7) (.c (.dat (.int .i64 2))),some (5,true),false⟩,
  ⟨some 9,.mv (.t 8),some (5,true),false⟩,
  ⟨some 10,.fAddr 2 (.t 1),some (9,false),false⟩,
  ⟨some 11,.ld 1 false (.t 10),some (9,false),false⟩,
  ⟨some 12,.bin .int .eql (.t 11) (.c (.dat (.int .i64 5))),some (9,false),false⟩,
  ⟨some 13,.pick (.t 9) (.c (.dat (.bool true))) (.t 12),some (5,true),false⟩,
  ⟨some 14,.mv (.t 13),some (5,true),false⟩,
  ⟨some 15,.fAddr 2 (.t 1),some (14,false),false⟩,
  ⟨some 16,.ld 1 false (.t 15),some (14,false),false⟩,
  ⟨some 17,.bin .int .eql (.t 16) (.c (.dat (.int .i64 4))),some (14,false),false⟩,
  ⟨some 18,.pick (.t 14) (.c (.dat (.bool true))) (.t 17),some (5,true),false⟩,
  ⟨some 19,.pick (.t 5) (.t 18) (.c (.dat (.bool false))),none,false⟩,
  ⟨some 2,.mv (.t 19),none,false⟩],[]⟩
@[simp] def fn80 : AFun:=⟨1,[.t 2],false,
 .seq (.reg r80_0) (.seq (.reg r80_1) (.ret)),none⟩
theorem c80 : cFun Tryz.prog ann80 false 80 = some fn80:=by kernel_rfl
def ann81 : Ann:=[{ id:=0,live:=[0] },
 { id:=1,live:=[0] },
 { id:=2,live:=[0] },
 { id:=3,live:=[0] }]
@[simp] def r81_0 : AReg:=⟨[0],[],[
  ⟨some 2,.mv (.c (.dat (.int .i64 0))),none,false⟩],[]⟩
@[simp] def r81_1 : AReg:=⟨[0],[],[
  ⟨some 3,.mv (.t 0),none,false⟩,
  ⟨some 4,.bin .int .geq (.t 3) (.c (.dat (.int .i64 0))),none,false⟩],[]⟩
@[simp] def r81_2 : AReg:=⟨[0],[],[
  ⟨some 5,.mv (.t 0),none,false⟩,
  ⟨some 2,.mv (.t 5),none,false⟩],[]⟩
@[simp] def r81_3 : AReg:=⟨[0],[],[
  ⟨some 6,.mv (.t 0),none,false⟩,
  ⟨some 7,.bin .int .add (.t 6) (.c (.dat (.int .i64 1))),none,false⟩,
  ⟨some 8,.un .neg (.t 7),none,false⟩,
  ⟨some 2,.mv (.t 8),none,false⟩],[]⟩
@[simp] def fn81 : AFun:=⟨1,[.t 2],false,
 .seq (.reg r81_0) (.seq (.seq (.reg r81_1) (.cond (.t 4) (.seq (.reg r81_2) (.ret)) (.skip))) (.seq (.reg r81_3) (.ret))),none⟩
theorem c81 : cFun Tryz.prog ann81 false 81 = some fn81:=by kernel_rfl
def ann82 : Ann:=[{ id:=0,live:=[0] },
 { id:=1,live:=[0] },
 { id:=2,live:=[0,3] },
 { id:=4,live:=[0,3] },
 { id:=5,live:=[] },
 { id:=3,live:=[0,3] },
 { id:=6,live:=[] }]
@[simp] def r82_0 : AReg:=⟨[0],[],[
  ⟨some 2,.mv (.c (.dat (.bool false))),none,false⟩],[]⟩
@[simp] def r82_1 : AReg:=⟨[0],[],[
  ⟨some 3,.mv (.c (.dat (.int .i64 0))),none,false⟩],[]⟩
@[simp] def r82_2 : AReg:=⟨[0,3],[],[
  ⟨some 4,.mv (.t 3),none,false⟩,
  ⟨some 5,.mv (.t 0),none,false⟩,
  ⟨some 6,.len false (.t 5),none,false⟩,
  ⟨some 7,.bin .int .lss (.t 4) (.t 6),none,false⟩],[]⟩
@[simp] def r82_3 : AReg:=⟨[0,3],[],[
  ⟨some 10,.mv (.t 0),none,false⟩,
  ⟨some 11,.mv (.t 3),none,false⟩,
  ⟨some 12,.iAddr 2 (.t 10) (.t 11),none,false⟩,
  ⟨some 13,.fAddr 1 (.t 12),none,false⟩,
  ⟨some 14,.ld 1 false (.t 13),none,false⟩,
  ⟨some 15,.bin .int .lss (.t 14) (.c (.dat (.int .i64 1))),none,false⟩,
  ⟨some 16,.mv (.t 15),none,false⟩,
  ⟨some 17,.mv (.t 0),some (16,false),false⟩,
  ⟨some 18,.mv (.t 3),some (16,false),false⟩,
  ⟨some 19,.iAddr 2 (.t 17) (.t 18),some (16,false),false⟩,
  ⟨some 20,.fAddr 1 (.t 19),some (16,false),false⟩,
  ⟨some 21,.ld 1 false (.t 20),some (16,false),false⟩,
  ⟨some 22,.bin .int .gtr (.t 21) (.c (.dat (.int .i64 2147483647))),some (16,false),false⟩,
  ⟨some 23,.pick (.t 16) (.c (.dat (.bool true))) (.t 22),none,false⟩,
  ⟨some 24,.mv (.t 23),none,false⟩,
  ⟨some 25,.mv (.t 3),some (24,false),false⟩,
  ⟨some 26,.bin .int .gtr (.t 25) (.c (.dat (.int .i64 0))),some (24,false),false⟩,
  ⟨some 27,.mv (.t 26),some (24,false),false⟩,
  ⟨some 28,.mv (.t 0),some (27,true),false⟩,
  ⟨some 29,.mv (.t 3),some (27,true),false⟩,
  ⟨some 30,.bin .int .sub (.t 29) (.c (.dat (.int .i64 1))),some (27,true),false⟩,
  ⟨some 31,.iAddr 2 (.t 28) (.t 30),some (27,true),false⟩,
  ⟨some 32,.fAddr 0 (.t 31),some (27,true),false⟩,
  ⟨some 33,.ld 1 false (.t 32),some (27,true),false⟩,
  ⟨some 34,.mv (.t 0),some (27,true),false⟩,
  ⟨some 35,.mv (.t 3),some (27,true),false⟩,
  ⟨some 36,.iAddr 2 (.t 34) (.t 35),some (27,true),false⟩,
  ⟨some 37,.fAddr 0 (.t 36),some (27,true),false⟩,
  ⟨some 38,.ld 1 false (.t 37),some (27,true),false⟩,
  ⟨some 39,.bin .int .geq (.t 33) (.t 38),some (27,true),false⟩,
  ⟨some 40,.pick (.t 27) (.t 39) (.c (.dat (.bool false))),some (24,false),false⟩,
  ⟨some 41,.pick (.t 24) (.c (.dat (.bool true))) (.t 40),none,false⟩],[]⟩
@[simp] def r82_4 : AReg:=⟨[],[],[
  ⟨some 2,.mv (.c (.dat (.bool false))),none,false⟩],[]⟩
@[simp] def r82_5 : AReg:=⟨[0,3],[],[
  ⟨some 8,.mv (.t 3),none,false⟩,
  ⟨some 9,.bin .int .add (.t 8) (.c (.dat (.int .i64 1))),none,false⟩,
  ⟨some 3,.mv (.t 9),none,false⟩],[]⟩
def l82_0 : AC:=.seq (.seq (.reg r82_2) (.cond (.t 7) (.skip) (.exit 0))) (.seq (.block 1 (.seq (.reg r82_3) (.cond (.t 41) (.seq (.reg r82_4) (.ret)) (.skip)))) (.reg r82_5))
@[simp] theorem l82_0e (K : Orc) (s : St) : exec K l82_0 s = exec K (.seq (.seq (.reg r82_2) (.cond (.t 7) (.skip) (.exit 0))) (.seq (.block 1 (.seq (.reg r82_3) (.cond (.t 41) (.seq (.reg r82_4) (.ret)) (.skip)))) (.reg r82_5))) s:=rfl
@[simp] def r82_6 : AReg:=⟨[],[],[
  ⟨some 2,.mv (.c (.dat (.bool true))),none,false⟩],[]⟩
@[simp] def fn82 : AFun:=⟨1,[.t 2],false,
 .seq (.reg r82_0) (.seq (.seq (.reg r82_1) (.block 0 (.loop l82_0))) (.seq (.reg r82_6) (.ret))),none⟩
theorem c82 : cFun Tryz.prog ann82 false 82 = some fn82:=by kernel_rfl
def ann83 : Ann:=[{ id:=0,live:=[0,1] },
 { id:=1,live:=[0,1] },
 { id:=2,live:=[0,1,5] },
 { id:=4,live:=[0,1,5] },
 { id:=5,live:=[0,5] },
 { id:=3,live:=[0,1,5] },
 { id:=6,live:=[] }]
@[simp] def r83_0 : AReg:=⟨[0,1],[],[
  ⟨some 4,.mv (.c (.dat (.int .i64 0))),none,false⟩],[]⟩
@[simp] def r83_1 : AReg:=⟨[0,1],[],[
  ⟨some 5,.mv (.c (.dat (.int .i64 0))),none,false⟩],[]⟩
@[simp] def r83_2 : AReg:=⟨[0,1,5],[],[
  ⟨some 6,.mv (.t 5),none,false⟩,
  ⟨some 7,.mv (.t 0),none,false⟩,
  ⟨some 8,.len false (.t 7),none,false⟩,
  ⟨some 9,.bin .int .lss (.t 6) (.t 8),none,false⟩],[]⟩
@[simp] def r83_3 : AReg:=⟨[0,1,5],[],[
  ⟨some 12,.mv (.t 0),none,false⟩,
  ⟨some 13,.mv (.t 5),none,false⟩,
  ⟨some 14,.iAddr 2 (.t 12) (.t 13),none,false⟩,
  ⟨some 15,.fAddr 0 (.t 14),none,false⟩,
  ⟨some 16,.ld 1 false (.t 15),none,false⟩,
  ⟨some 17,.mv (.t 1),none,false⟩,
  ⟨some 18,.bin .int .eql (.t 16) (.t 17),none,false⟩],[]⟩
@[simp] def r83_4 : AReg:=⟨[0,5],[],[
  ⟨some 19,.mv (.t 0),none,false⟩,
  ⟨some 20,.mv (.t 5),none,false⟩,
  ⟨some 21,.iAddr 2 (.t 19) (.t 20),none,false⟩,
  ⟨some 22,.fAddr 1 (.t 21),none,false⟩,
  ⟨some 23,.ld 1 false (.t 22),none,false⟩,
  ⟨some 4,.mv (.t 23),none,false⟩],[]⟩
@[simp] def r83_5 : AReg:=⟨[0,1,5],[],[
  ⟨some 10,.mv (.t 5),none,false⟩,
  ⟨some 11,.bin .int .add (.t 10) (.c (.dat (.int .i64 1))),none,false⟩,
  ⟨some 5,.mv (.t 11),none,false⟩],[]⟩
def l83_0 : AC:=.seq (.seq (.reg r83_2) (.cond (.t 9) (.skip) (.exit 0))) (.seq (.block 1 (.seq (.reg r83_3) (.cond (.t 18) (.seq (.reg r83_4) (.ret)) (.skip)))) (.reg r83_5))
@[simp] theorem l83_0e (K : Orc) (s : St) : exec K l83_0 s = exec K (.seq (.seq (.reg r83_2) (.cond (.t 9) (.skip) (.exit 0))) (.seq (.block 1 (.seq (.reg r83_3) (.cond (.t 18) (.seq (.reg r83_4) (.ret)) (.skip)))) (.reg r83_5))) s:=rfl
@[simp] def r83_6 : AReg:=⟨[],[],[
  ⟨some 4,.mv (.c (.dat (.int .i64 0))),none,false⟩],[]⟩
@[simp] def fn83 : AFun:=⟨2,[.t 4],false,
 .seq (.reg r83_0) (.seq (.seq (.reg r83_1) (.block 0 (.loop l83_0))) (.seq (.reg r83_6) (.ret))),none⟩
theorem c83 : cFun Tryz.prog ann83 false 83 = some fn83:=by kernel_rfl
def ann84 : Ann:=[{ id:=0,live:=[0,1,2] }]
@[simp] def r84_0 : AReg:=⟨[0,1,2],[],[
  ⟨some 4,.ld 1 false (.t 1),none,false⟩,
  ⟨some 5,.ld 1 false (.t 2),none,false⟩,
  ⟨some 6,.mv (.t 0),none,false⟩,
  ⟨some 7,.iAddr 10 (.t 5) (.t 6),none,false⟩,
  ⟨some 8,.fAddr 9 (.t 7),none,false⟩,
  ⟨some 9,.ld 1 false (.t 8),none,false⟩,
  ⟨some 10,.call 85 [((.t 4),false),((.t 9),false)] false,none,false⟩,
  ⟨none,.st false 1 (.t 1) (.t 10),none,false⟩],[]⟩
@[simp] def fn84 : AFun:=⟨3,[],false,
 .reg r84_0,none⟩
theorem c84 : cFun Tryz.prog ann84 false 84 = some fn84:=by kernel_rfl
def ann85 : Ann:=[{ id:=0,live:=[0,1] },
 { id:=1,live:=[0,1] },
 { id:=2,live:=[] },
 { id:=3,live:=[0,1] }]
@[simp] def r85_0 : AReg:=⟨[0,1],[],[
  ⟨some 4,.mv (.c .nils),none,false⟩],[]⟩
@[simp] def r85_1 : AReg:=⟨[0,1],[],[
  ⟨some 5,.mv (.t 0),none,false⟩,
  ⟨some 6,.call 99 [((.t 5),false)] true,none,false⟩,
  ⟨some 7,.un .not (.t 6),none,false⟩,
  ⟨some 8,.mv (.t 7),none,false⟩,
  ⟨some 9,.mv (.t 1),some (8,false),false⟩,
  ⟨some 10,.call 99 [((.t 9),false)] true,some (8,false),false⟩,
  ⟨some 11,.un .not (.t 10),some (8,false),false⟩,
  ⟨some 12,.pick (.t 8) (.c (.dat (.bool true))) (.t 11),none,false⟩],[]⟩
@[simp] def r85_2 : AReg:=⟨[],[],[
  ⟨some 4,.mv (.c .nils),none,false⟩],[]⟩
@[simp] def r85_3 : AReg:=⟨[0,1],[],[
  ⟨some 13,.mv (.t 0),none,false⟩,
  ⟨some 14,.mv (.t 1),none,false⟩,
  ⟨some 15,.call 129 [((.t 13),false),((.t 14),false)] false,none,false⟩,
  ⟨some 4,.mv (.t 15),none,false⟩],[]⟩
@[simp] def fn85 : AFun:=⟨2,[.t 4],false,
 .seq (.reg r85_0) (.seq (.seq (.reg r85_1) (.cond (.t 12) (.seq (.reg r85_2) (.ret)) (.skip))) (.seq (.reg r85_3) (.ret))),none⟩
theorem c85 : cFun Tryz.prog ann85 false 85 = some fn85:=by kernel_rfl
def ann86 : Ann:=[{ id:=0,live:=[0] },
 { id:=1,live:=[1] },
 { id:=2,live:=[1,4] },
 { id:=3,live:=[1,4] },
 { id:=4,live:=[1,4] },
 { id:=5,live:=[1] },
 { id:=6,live:=[1,4] },
 { id:=7,live:=[1] },
 { id:=8,live:=[1,4] },
 { id:=9,live:=[1,4] },
 { id:=10,live:=[1,4] },
 { id:=11,live:=[1] },
 { id:=12,live:=[] }]
@[simp] def r86_0 : AReg:=⟨[0],[],[
  ⟨some 1,.box 9 (.t 0),none,false⟩,
  ⟨some 2,.mv (.c .nils),none,false⟩],[]⟩
@[simp] def r86_1 : AReg:=⟨[1],[],[
  ⟨some 3,.fAddr 2 (.t 1),none,false⟩,
  ⟨some 4,.ld 1 false (.t 3),none,false⟩],[]⟩
@[simp] def r86_2 : AReg:=⟨[1,4],[],[
  ⟨some 6,.bin .int .eql (.t 4) (.c (.dat (.int .i64 9))),none,false⟩,
  ⟨some 5,.mv (.t 6),none,false⟩],[]⟩
@[simp] def r86_3 : AReg:=⟨[1,4],[],[
  ⟨some 7,.bin .int .eql (.t 4) (.c (.dat (.int .i64 10))),none,false⟩,
  ⟨some 5,.mv (.t 7),none,false⟩],[]⟩
@[simp] def r86_4 : AReg:=⟨[1,4],[],[
  ⟨some 8,.bin .int .eql (.t 4) (.c (.dat (.int .i64 11))),none,false⟩,
  ⟨some 5,.mv (.t 8),none,false⟩],[]⟩
@[simp] def r86_5 : AReg:=⟨[1],[],[
  ⟨some 9,.fAddr 3 (.t 1),none,false⟩,
  ⟨some 10,.ld 1 false (.t 9),none,false⟩,
  ⟨some 11,.bld [(.dat (.int .i64 0)),(.dat (.int .i64 0))] [(0,1,(.c (.dat (.int .i64 2)))),(1,1,(.t 10))],none,false⟩,
  ⟨some 12,.bldS .d 2 [(.t 11)],none,false⟩,
  ⟨some 2,.mv (.t 12),none,false⟩],[]⟩
@[simp] def r86_6 : AReg:=⟨[1,4],[],[
  ⟨some 14,.bin .int .eql (.t 4) (.c (.dat (.int .i64 12))),none,false⟩,
  ⟨some 13,.mv (.t 14),none,false⟩],[]⟩
@[simp] def r86_7 : AReg:=⟨[1],[],[
  ⟨some 15,.fAddr 4 (.t 1),none,false⟩,
  ⟨some 16,.ld 1 false (.t 15),none,false⟩,
  ⟨some 17,.bld [(.dat (.int .i64 0)),(.dat (.int .i64 0))] [(0,1,(.c (.dat (.int .i64 2)))),(1,1,(.t 16))],none,false⟩,
  ⟨some 18,.fAddr 3 (.t 1),none,false⟩,
  ⟨some 19,.ld 1 false (.t 18),none,false⟩,
  ⟨some 20,.bld [(.dat (.int .i64 0)),(.dat (.int .i64 0))] [(0,1,(.c (.dat (.int .i64 3)))),(1,1,(.t 19))],none,false⟩,
  ⟨some 21,.bldS .d 2 [(.t 17),(.t 20)],none,false⟩,
  ⟨some 2,.mv (.t 21),none,false⟩],[]⟩
@[simp] def r86_8 : AReg:=⟨[1,4],[],[
  ⟨some 23,.bin .int .eql (.t 4) (.c (.dat (.int .i64 13))),none,false⟩,
  ⟨some 22,.mv (.t 23),none,false⟩],[]⟩
@[simp] def r86_9 : AReg:=⟨[1,4],[],[
  ⟨some 24,.bin .int .eql (.t 4) (.c (.dat (.int .i64 14))),none,false⟩,
  ⟨some 22,.mv (.t 24),none,false⟩],[]⟩
@[simp] def r86_10 : AReg:=⟨[1,4],[],[
  ⟨some 25,.bin .int .eql (.t 4) (.c (.dat (.int .i64 15))),none,false⟩,
  ⟨some 22,.mv (.t 25),none,false⟩],[]⟩
@[simp] def r86_11 : AReg:=⟨[1],[],[
  ⟨some 26,.fAddr 3 (.t 1),none,false⟩,
  ⟨some 27,.ld 1 false (.t 26),none,false⟩,
  ⟨some 28,.bld [(.dat (.int .i64 0)),(.dat (.int .i64 0))] [(0,1,(.c (.dat (.int .i64 3)))),(1,1,(.t 27))],none,false⟩,
  ⟨some 29,.bldS .d 2 [(.t 28)],none,false⟩,
  ⟨some 2,.mv (.t 29),none,false⟩],[]⟩
@[simp] def r86_12 : AReg:=⟨[],[],[
  ⟨some 2,.mv (.c .nils),none,false⟩],[]⟩
@[simp] def fn86 : AFun:=⟨1,[.t 2],false,
 .seq (.reg r86_0) (.seq (.seq (.reg r86_1) (.block 0 (.seq (.seq (.reg r86_2) (.cond (.t 5) (.skip) (.seq (.reg r86_3) (.cond (.t 5) (.skip) (.reg r86_4))))) (.cond (.t 5) (.seq (.reg r86_5) (.ret)) (.seq (.reg r86_6) (.cond (.t 13) (.seq (.reg r86_7) (.ret)) (.seq (.seq (.reg r86_8) (.cond (.t 22) (.skip) (.seq (.reg r86_9) (.cond (.t 22) (.skip) (.reg r86_10))))) (.cond (.t 22) (.seq (.reg r86_11) (.ret)) (.skip))))))))) (.seq (.reg r86_12) (.ret))),none⟩
theorem c86 : cFun Tryz.prog ann86 false 86 = some fn86:=by kernel_rfl
def ann87 : Ann:=[{ id:=0,live:=[0,1,2] },
 { id:=1,live:=[0,1,2] },
 { id:=2,live:=[0,1,2,7] },
 { id:=3,live:=[] },
 { id:=4,live:=[0,1,2],marks:=[(0,{ md:=.o })] },
 { id:=5,live:=[0,1,2,8] },
 { id:=6,live:=[0,1,8,9],drop:=[0,1,8] },
 { id:=7,live:=[0,1,8,9] },
 { id:=8,live:=[0,1,8,9],marks:=[(3,{ md:=.o })] },
 { id:=9,live:=[0,1,8,9] },
 { id:=10,live:=[0,1,8,9] },
 { id:=11,live:=[8] }]
@[simp] def r87_0 : AReg:=⟨[0,1,2],[],[
  ⟨some 6,.mv (.c .nils),none,false⟩],[]⟩
@[simp] def r87_1 : AReg:=⟨[0,1,2],[],[
  ⟨some 10,.mv (.t 0),none,false⟩,
  ⟨some 11,.mv (.t 2),none,false⟩,
  ⟨some 12,.iAddr 9 (.t 10) (.t 11),none,false⟩,
  ⟨some 13,.ld 9 true (.t 12),none,false⟩,
  ⟨some 7,.alc [(.dat (.int .i64 0)),(.dat (.int .i64 0)),(.dat (.int .i64 0)),(.dat (.int .i64 0)),(.dat (.int .i64 0)),(.dat (.int .i64 0)),(.dat (.int .i64 0)),(.dat (.int .i64 0)),(.dat (.int .i64 0))],none,false⟩,
  ⟨none,.st false 9 (.t 7) (.t 13),none,false⟩],[]⟩
@[simp] def r87_2 : AReg:=⟨[0,1,2,7],[],[
  ⟨some 14,.ld 9 true (.t 7),none,false⟩,
  ⟨some 15,.call 73 [((.t 14),false)] true,none,false⟩,
  ⟨some 16,.un .not (.t 15),none,false⟩,
  ⟨some 17,.mv (.t 16),none,false⟩,
  ⟨some 18,.fAddr 6 (.t 7),some (17,false),false⟩,
  ⟨some 19,.ld 1 false (.t 18),some (17,false),false⟩,
  ⟨some 20,.bin .int .neq (.t 19) (.c (.dat (.int .i64 2))),some (17,false),false⟩,
  ⟨some 21,.pick (.t 17) (.c (.dat (.bool true))) (.t 20),none,false⟩],[]⟩
@[simp] def r87_3 : AReg:=⟨[],[],[
  ⟨some 6,.mv (.c .nils),none,false⟩],[]⟩
@[simp] def r87_4 : AReg:=⟨[0,1,2],[],[
  ⟨some 8,.mvNil .o 1,none,false⟩],[]⟩
@[simp] def r87_5 : AReg:=⟨[0,1,2,8],[],[
  ⟨some 22,.mv (.t 1),none,false⟩,
  ⟨some 23,.mv (.t 2),none,false⟩,
  ⟨some 24,.iAddr 1 (.t 22) (.t 23),none,false⟩,
  ⟨some 25,.ld 1 false (.t 24),none,false⟩,
  ⟨some 9,.mv (.t 25),none,false⟩],[]⟩
@[simp] def r87_6 : AReg:=⟨[0,1,8,9],[0,1,8],[
  ⟨some 26,.mv (.t 9),none,false⟩,
  ⟨some 27,.bin .int .geq (.t 26) (.c (.dat (.int .i64 0))),none,false⟩],[]⟩
@[simp] def r87_7 : AReg:=⟨[0,1,8,9],[],[
  ⟨some 28,.mv (.t 0),none,false⟩,
  ⟨some 29,.mv (.t 9),none,false⟩,
  ⟨some 30,.iAddr 9 (.t 28) (.t 29),none,false⟩,
  ⟨some 31,.ld 9 true (.t 30),none,false⟩,
  ⟨some 32,.call 62 [((.t 31),false)] true,none,false⟩,
  ⟨some 33,.mv (.t 32),none,false⟩,
  ⟨some 34,.mv (.t 0),some (33,true),false⟩,
  ⟨some 35,.mv (.t 9),some (33,true),false⟩,
  ⟨some 36,.iAddr 9 (.t 34) (.t 35),some (33,true),false⟩,
  ⟨some 37,.fAddr 6 (.t 36),some (33,true),false⟩,
  ⟨some 38,.ld 1 false (.t 37),some (33,true),false⟩,
  ⟨some 39,.bin .int .eql (.t 38) (.c (.dat (.int .i64 2))),some (33,true),false⟩,
  ⟨some 40,.pick (.t 33) (.t 39) (.c (.dat (.bool false))),none,false⟩],[]⟩
@[simp] def r87_8 : AReg:=⟨[0,1,8,9],[],[
  ⟨some 41,.mv (.t 8),none,false⟩,
  ⟨some 42,.mv (.t 9),none,false⟩,
  ⟨some 43,.bldS .d 1 [(.t 42)],none,false⟩,
  ⟨some 44,.app .o 1 8 (.t 41) (.t 43),none,false⟩,
  ⟨some 8,.mv (.t 44),none,false⟩],[]⟩
@[simp] def r87_9 : AReg:=⟨[0,1,8,9],[],[
  ⟨some 45,.mv (.t 0),none,false⟩,
  ⟨some 46,.mv (.t 9),none,false⟩,
  ⟨some 47,.iAddr 9 (.t 45) (.t 46),none,false⟩,
  ⟨some 48,.fAddr 2 (.t 47),none,false⟩,
  ⟨some 49,.ld 1 false (.t 48),none,false⟩,
  ⟨some 50,.bin .int .neq (.t 49) (.c (.dat (.int .i64 5))),none,false⟩],[]⟩
@[simp] def r87_10 : AReg:=⟨[0,1,8,9],[],[
  ⟨some 51,.mv (.t 1),none,false⟩,
  ⟨some 52,.mv (.t 9),none,false⟩,
  ⟨some 53,.iAddr 1 (.t 51) (.t 52),none,false⟩,
  ⟨some 54,.ld 1 false (.t 53),none,false⟩,
  ⟨some 9,.mv (.t 54),none,false⟩],[]⟩
def l87_0 : AC:=.seq (.seq (.reg r87_6) (.cond (.t 27) (.skip) (.exit 0))) (.block 1 (.seq (.seq (.reg r87_7) (.cond (.t 40) (.reg r87_8) (.skip))) (.seq (.seq (.reg r87_9) (.cond (.t 50) (.exit 0) (.skip))) (.reg r87_10))))
@[simp] theorem l87_0e (K : Orc) (s : St) : exec K l87_0 s = exec K (.seq (.seq (.reg r87_6) (.cond (.t 27) (.skip) (.exit 0))) (.block 1 (.seq (.seq (.reg r87_7) (.cond (.t 40) (.reg r87_8) (.skip))) (.seq (.seq (.reg r87_9) (.cond (.t 50) (.exit 0) (.skip))) (.reg r87_10))))) s:=rfl
@[simp] def r87_11 : AReg:=⟨[8],[],[
  ⟨some 55,.mv (.t 8),none,false⟩,
  ⟨some 6,.mv (.t 55),none,false⟩],[]⟩
@[simp] def fn87 : AFun:=⟨3,[.t 6],false,
 .seq (.reg r87_0) (.seq (.reg r87_1) (.seq (.seq (.reg r87_2) (.cond (.t 21) (.seq (.reg r87_3) (.ret)) (.skip))) (.seq (.reg r87_4) (.seq (.seq (.reg r87_5) (.block 0 (.loop l87_0))) (.seq (.reg r87_11) (.ret)))))),none⟩
theorem c87 : cFun Tryz.prog ann87 false 87 = some fn87:=by kernel_rfl
def ann88 : Ann:=[{ id:=0,live:=[0,1] },
 { id:=1,live:=[0,1] },
 { id:=2,live:=[] },
 { id:=3,live:=[0,1] }]
@[simp] def r88_0 : AReg:=⟨[0,1],[],[
  ⟨some 4,.mv (.c .nils),none,false⟩],[]⟩
@[simp] def r88_1 : AReg:=⟨[0,1],[],[
  ⟨some 5,.mv (.t 0),none,false⟩,
  ⟨some 6,.call 99 [((.t 5),false)] true,none,false⟩,
  ⟨some 7,.un .not (.t 6),none,false⟩,
  ⟨some 8,.mv (.t 7),none,false⟩,
  ⟨some 9,.mv (.t 0),some (8,false),false⟩,
  ⟨some 10,.mv (.t 1),some (8,false),false⟩,
  ⟨some 11,.call 130 [((.t 9),false),((.t 10),false)] true,some (8,false),false⟩,
  ⟨some 12,.bin .int .eql (.t 11) (.c (.dat (.int .i64 2147483647))),some (8,false),false⟩,
  ⟨some 13,.pick (.t 8) (.c (.dat (.bool true))) (.t 12),none,false⟩],[]⟩
@[simp] def r88_2 : AReg:=⟨[],[],[
  ⟨some 4,.mv (.c .nils),none,false⟩],[]⟩
@[simp] def r88_3 : AReg:=⟨[0,1],[],[
  ⟨some 14,.mv (.t 0),none,false⟩,
  ⟨some 15,.mv (.t 1),none,false⟩,
  ⟨some 16,.call 131 [((.t 14),false),((.t 15),false)] false,none,false⟩,
  ⟨some 4,.mv (.t 16),none,false⟩],[]⟩
@[simp] def fn88 : AFun:=⟨2,[.t 4],false,
 .seq (.reg r88_0) (.seq (.seq (.reg r88_1) (.cond (.t 13) (.seq (.reg r88_2) (.ret)) (.skip))) (.seq (.reg r88_3) (.ret))),none⟩
theorem c88 : cFun Tryz.prog ann88 false 88 = some fn88:=by kernel_rfl
def ann89 : Ann:=[{ id:=0,live:=[0,1,2,3] },
 { id:=1,live:=[0,1,2,3] },
 { id:=2,live:=[0,1,2,3,9,10] },
 { id:=3,live:=[] },
 { id:=4,live:=[0,1,2,3,9,10] },
 { id:=5,live:=[] },
 { id:=6,live:=[0,1,2,3,9,10] },
 { id:=7,live:=[] },
 { id:=8,live:=[0,1,2,3] }]
@[simp] def r89_0 : AReg:=⟨[0,1,2,3],[],[
  ⟨some 8,.mv (.c (.dat (.bool false))),none,false⟩],[]⟩
@[simp] def r89_1 : AReg:=⟨[0,1,2,3],[],[
  ⟨some 11,.mv (.t 0),none,false⟩,
  ⟨some 12,.mv (.t 2),none,false⟩,
  ⟨some 13,.iAddr 9 (.t 11) (.t 12),none,false⟩,
  ⟨some 14,.ld 9 true (.t 13),none,true⟩,
  ⟨some 15,.mv (.t 0),none,false⟩,
  ⟨some 16,.mv (.t 3),none,false⟩,
  ⟨some 17,.iAddr 9 (.t 15) (.t 16),none,false⟩,
  ⟨some 18,.ld 9 true (.t 17),none,true⟩,
  ⟨some 9,.alc [(.dat (.int .i64 0)),(.dat (.int .i64 0)),(.dat (.int .i64 0)),(.dat (.int .i64 0)),(.dat (.int .i64 0)),(.dat (.int .i64 0)),(.dat (.int .i64 0)),(.dat (.int .i64 0)),(.dat (.int .i64 0))],none,true⟩,
  ⟨some 10,.alc [(.dat (.int .i64 0)),(.dat (.int .i64 0)),(.dat (.int .i64 0)),(.dat (.int .i64 0)),(.dat (.int .i64 0)),(.dat (.int .i64 0)),(.dat (.int .i64 0)),(.dat (.int .i64 0)),(.dat (.int .i64 0))],none,true⟩,
  ⟨none,.st false 9 (.t 9) (.t 14),none,true⟩,
  ⟨none,.st false 9 (.t 10) (.t 18),none,false⟩],[(3,8),(7,8),(3,9),(7,9),(8,9),(7,10)]⟩
@[simp] def r89_2 : AReg:=⟨[0,1,2,3,9,10],[],[
  ⟨some 19,.fAddr 0 (.t 9),none,false⟩,
  ⟨some 20,.ld 1 false (.t 19),none,false⟩,
  ⟨some 21,.fAddr 0 (.t 10),none,false⟩,
  ⟨some 22,.ld 1 false (.t 21),none,false⟩,
  ⟨some 23,.bin .int .eql (.t 20) (.t 22),none,false⟩,
  ⟨some 24,.mv (.t 23),none,false⟩,
  ⟨some 25,.ld 9 true (.t 9),some (24,false),false⟩,
  ⟨some 26,.call 132 [((.t 25),false)] true,some (24,false),false⟩,
  ⟨some 27,.bin .int .geq (.t 26) (.c (.dat (.int .i64 0))),some (24,false),false⟩,
  ⟨some 28,.mv (.t 27),some (24,false),false⟩,
  ⟨some 29,.ld 9 true (.t 9),some (28,true),false⟩,
  ⟨some 30,.call 132 [((.t 29),false)] true,some (28,true),true⟩,
  ⟨some 31,.ld 9 true (.t 10),some (28,true),true⟩,
  ⟨some 32,.call 132 [((.t 31),false)] true,some (28,true),false⟩,
  ⟨some 33,.bin .int .eql (.t 30) (.t 32),some (28,true),false⟩,
  ⟨some 34,.pick (.t 28) (.t 33) (.c (.dat (.bool false))),some (24,false),false⟩,
  ⟨some 35,.pick (.t 24) (.c (.dat (.bool true))) (.t 34),none,false⟩,
  ⟨some 36,.mv (.t 35),none,false⟩,
  ⟨some 37,.ld 9 true (.t 9),some (36,false),false⟩,
  ⟨some 38,.call 133 [((.t 37),false)] true,some (36,false),false⟩,
  ⟨some 39,.bin .int .geq (.t 38) (.c (.dat (.int .i64 0))),some (36,false),false⟩,
  ⟨some 40,.mv (.t 39),some (36,false),false⟩,
  ⟨some 41,.ld 9 true (.t 9),some (40,true),false⟩,
  ⟨some 42,.call 133 [((.t 41),false)] true,some (40,true),true⟩,
  ⟨some 43,.ld 9 true (.t 10),some (40,true),true⟩,
  ⟨some 44,.call 133 [((.t 43),false)] true,some (40,true),false⟩,
  ⟨some 45,.bin .int .eql (.t 42) (.t 44),some (40,true),false⟩,
  ⟨some 46,.pick (.t 40) (.t 45) (.c (.dat (.bool false))),some (36,false),false⟩,
  ⟨some 47,.pick (.t 36) (.c (.dat (.bool true))) (.t 46),none,false⟩],[(11,12),(23,24)]⟩
@[simp] def r89_3 : AReg:=⟨[],[],[
  ⟨some 8,.mv (.c (.dat (.bool true))),none,false⟩],[]⟩
@[simp] def r89_4 : AReg:=⟨[0,1,2,3,9,10],[],[
  ⟨some 48,.fAddr 2 (.t 9),none,false⟩,
  ⟨some 49,.ld 1 false (.t 48),none,false⟩,
  ⟨some 50,.bin .int .eql (.t 49) (.c (.dat (.int .i64 16))),none,false⟩,
  ⟨some 51,.mv (.t 50),none,false⟩,
  ⟨some 52,.fAddr 3 (.t 9),some (51,true),false⟩,
  ⟨some 53,.ld 1 false (.t 52),some (51,true),false⟩,
  ⟨some 54,.fAddr 0 (.t 10),some (51,true),false⟩,
  ⟨some 55,.ld 1 false (.t 54),some (51,true),false⟩,
  ⟨some 56,.bin .int .eql (.t 53) (.t 55),some (51,true),false⟩,
  ⟨some 57,.mv (.t 56),some (51,true),false⟩,
  ⟨some 58,.fAddr 2 (.t 10),some (57,false),false⟩,
  ⟨some 59,.ld 1 false (.t 58),some (57,false),false⟩,
  ⟨some 60,.bin .int .eql (.t 59) (.c (.dat (.int .i64 17))),some (57,false),false⟩,
  ⟨some 61,.mv (.t 60),some (57,false),false⟩,
  ⟨some 62,.fAddr 3 (.t 9),some (61,true),false⟩,
  ⟨some 63,.ld 1 false (.t 62),some (61,true),false⟩,
  ⟨some 64,.fAddr 3 (.t 10),some (61,true),false⟩,
  ⟨some 65,.ld 1 false (.t 64),some (61,true),false⟩,
  ⟨some 66,.bin .int .eql (.t 63) (.t 65),some (61,true),false⟩,
  ⟨some 67,.pick (.t 61) (.t 66) (.c (.dat (.bool false))),some (57,false),false⟩,
  ⟨some 68,.pick (.t 57) (.c (.dat (.bool true))) (.t 67),some (51,true),false⟩,
  ⟨some 69,.pick (.t 51) (.t 68) (.c (.dat (.bool false))),none,false⟩,
  ⟨some 70,.mv (.t 69),none,false⟩,
  ⟨some 71,.fAddr 2 (.t 10),some (70,false),false⟩,
  ⟨some 72,.ld 1 false (.t 71),some (70,false),false⟩,
  ⟨some 73,.bin .int .eql (.t 72) (.c (.dat (.int .i64 17))),some (70,false),false⟩,
  ⟨some 74,.mv (.t 73),some (70,false),false⟩,
  ⟨some 75,.fAddr 3 (.t 10),some (74,true),false⟩,
  ⟨some 76,.ld 1 false (.t 75),some (74,true),false⟩,
  ⟨some 77,.fAddr 0 (.t 9),some (74,true),false⟩,
  ⟨some 78,.ld 1 false (.t 77),some (74,true),false⟩,
  ⟨some 79,.bin .int .eql (.t 76) (.t 78),some (74,true),false⟩,
  ⟨some 80,.pick (.t 74) (.t 79) (.c (.dat (.bool false))),some (70,false),false⟩,
  ⟨some 81,.pick (.t 70) (.c (.dat (.bool true))) (.t 80),none,false⟩],[]⟩
@[simp] def r89_5 : AReg:=⟨[],[],[
  ⟨some 8,.mv (.c (.dat (.bool true))),none,false⟩],[]⟩
@[simp] def r89_6 : AReg:=⟨[0,1,2,3,9,10],[],[
  ⟨some 82,.fAddr 2 (.t 9),none,false⟩,
  ⟨some 83,.ld 1 false (.t 82),none,false⟩,
  ⟨some 84,.bin .int .eql (.t 83) (.c (.dat (.int .i64 3))),none,false⟩,
  ⟨some 85,.mv (.t 84),none,false⟩,
  ⟨some 86,.fAddr 2 (.t 10),some (85,true),false⟩,
  ⟨some 87,.ld 1 false (.t 86),some (85,true),false⟩,
  ⟨some 88,.bin .int .eql (.t 87) (.c (.dat (.int .i64 4))),some (85,true),false⟩,
  ⟨some 89,.pick (.t 85) (.t 88) (.c (.dat (.bool false))),none,false⟩,
  ⟨some 90,.mv (.t 89),none,false⟩,
  ⟨some 91,.fAddr 0 (.t 10),some (90,true),false⟩,
  ⟨some 92,.ld 1 false (.t 91),some (90,true),true⟩,
  ⟨some 93,.fAddr 0 (.t 9),some (90,true),false⟩,
  ⟨some 94,.ld 1 false (.t 93),some (90,true),false⟩,
  ⟨some 95,.call 134 [((.t 94),false)] true,some (90,true),true⟩,
  ⟨some 96,.bin .int .eql (.t 92) (.t 95),some (90,true),false⟩,
  ⟨some 97,.pick (.t 90) (.t 96) (.c (.dat (.bool false))),none,false⟩,
  ⟨some 98,.mv (.t 97),none,false⟩,
  ⟨some 99,.fAddr 5 (.t 9),some (98,true),false⟩,
  ⟨some 100,.ld 1 false (.t 99),some (98,true),false⟩,
  ⟨some 101,.fAddr 5 (.t 10),some (98,true),false⟩,
  ⟨some 102,.ld 1 false (.t 101),some (98,true),false⟩,
  ⟨some 103,.bin .int .eql (.t 100) (.t 102),some (98,true),false⟩,
  ⟨some 104,.pick (.t 98) (.t 103) (.c (.dat (.bool false))),none,false⟩],[(10,13)]⟩
@[simp] def r89_7 : AReg:=⟨[],[],[
  ⟨some 8,.mv (.c (.dat (.bool true))),none,false⟩],[]⟩
@[simp] def r89_8 : AReg:=⟨[0,1,2,3],[],[
  ⟨some 105,.mv (.t 0),none,false⟩,
  ⟨some 106,.mv (.t 1),none,false⟩,
  ⟨some 107,.mv (.t 2),none,false⟩,
  ⟨some 108,.mv (.t 3),none,false⟩,
  ⟨some 109,.call 135 [((.t 105),false),((.t 106),false),((.t 107),false),((.t 108),false)] true,none,false⟩,
  ⟨some 8,.mv (.t 109),none,false⟩],[]⟩
@[simp] def fn89 : AFun:=⟨4,[.t 8],false,
 .seq (.reg r89_0) (.seq (.reg r89_1) (.seq (.seq (.reg r89_2) (.cond (.t 47) (.seq (.reg r89_3) (.ret)) (.skip))) (.seq (.seq (.reg r89_4) (.cond (.t 81) (.seq (.reg r89_5) (.ret)) (.skip))) (.seq (.seq (.reg r89_6) (.cond (.t 104) (.seq (.reg r89_7) (.ret)) (.skip))) (.seq (.reg r89_8) (.ret)))))),none⟩
theorem c89 : cFun Tryz.prog ann89 false 89 = some fn89:=by kernel_rfl
def ann99 : Ann:=[{ id:=0,live:=[0] },
 { id:=1,live:=[0] },
 { id:=2,live:=[0,5,6,7],drop:=[0,5] },
 { id:=3,live:=[0,5,6,7] },
 { id:=4,live:=[0,3,4,5,6,7] },
 { id:=5,live:=[] },
 { id:=6,live:=[0,5,6,7] },
 { id:=7,live:=[] }]
@[simp] def r99_0 : AReg:=⟨[0],[],[
  ⟨some 2,.mv (.c (.dat (.bool false))),none,false⟩],[]⟩
@[simp] def r99_1 : AReg:=⟨[0],[],[
  ⟨some 5,.mv (.t 0),none,false⟩,
  ⟨some 6,.len false (.t 5),none,false⟩,
  ⟨some 7,.mv (.c (.dat (.int .i64 0))),none,false⟩],[]⟩
@[simp] def r99_2 : AReg:=⟨[0,5,6,7],[0,5],[
  ⟨some 8,.bin .int .lss (.t 7) (.t 6),none,false⟩],[]⟩
@[simp] def r99_3 : AReg:=⟨[0,5,6,7],[],[
  ⟨some 9,.mv (.t 7),none,false⟩,
  ⟨some 10,.iAddr 2 (.t 5) (.t 7),none,false⟩,
  ⟨some 11,.ld 2 true (.t 10),none,false⟩,
  ⟨some 4,.alc [(.dat (.int .i64 0)),(.dat (.int .i64 0))],none,false⟩,
  ⟨some 3,.mv (.t 9),none,false⟩,
  ⟨none,.st false 2 (.t 4) (.t 11),none,false⟩],[]⟩
@[simp] def r99_4 : AReg:=⟨[0,3,4,5,6,7],[],[
  ⟨some 12,.fAddr 1 (.t 4),none,false⟩,
  ⟨some 13,.ld 1 false (.t 12),none,false⟩,
  ⟨some 14,.bin .int .lss (.t 13) (.c (.dat (.int .i64 1))),none,false⟩,
  ⟨some 15,.mv (.t 14),none,false⟩,
  ⟨some 16,.fAddr 1 (.t 4),some (15,false),false⟩,
  ⟨some 17,.ld 1 false (.t 16),some (15,false),false⟩,
  ⟨some 18,.bin .int .gtr (.t 17) (.c (.dat (.int .i64 2147483647))),some (15,false),false⟩,
  ⟨some 19,.pick (.t 15) (.c (.dat (.bool true))) (.t 18),none,false⟩,
  ⟨some 20,.mv (.t 19),none,false⟩,
  ⟨some 21,.mv (.t 3),some (20,false),false⟩,
  ⟨some 22,.bin .int .gtr (.t 21) (.c (.dat (.int .i64 0))),some (20,false),false⟩,
  ⟨some 23,.mv (.t 22),some (20,false),false⟩,
  ⟨some 24,.mv (.t 0),some (23,true),false⟩,
  ⟨some 25,.mv (.t 3),some (23,true),false⟩,
  ⟨some 26,.bin .int .sub (.t 25) (.c (.dat (.int .i64 1))),some (23,true),false⟩,
  ⟨some 27,.iAddr 2 (.t 24) (.t 26),some (23,true),false⟩,
  ⟨some 28,.fAddr 0 (.t 27),some (23,true),false⟩,
  ⟨some 29,.ld 1 false (.t 28),some (23,true),false⟩,
  ⟨some 30,.fAddr 0 (.t 4),some (23,true),false⟩,
  ⟨some 31,.ld 1 false (.t 30),some (23,true),false⟩,
  ⟨some 32,.bin .int .geq (.t 29) (.t 31),some (23,true),false⟩,
  ⟨some 33,.pick (.t 23) (.t 32) (.c (.dat (.bool false))),some (20,false),false⟩,
  ⟨some 34,.pick (.t 20) (.c (.dat (.bool true))) (.t 33),none,false⟩],[]⟩
@[simp] def r99_5 : AReg:=⟨[],[],[
  ⟨some 2,.mv (.c (.dat (.bool false))),none,false⟩],[]⟩
@[simp] def r99_6 : AReg:=⟨[0,5,6,7],[],[
  ⟨some 35,.bin .int .add (.t 7) (.c (.dat (.int .i64 1))),none,false⟩,
  ⟨some 7,.mv (.t 35),none,false⟩],[]⟩
def l99_0 : AC:=.seq (.reg r99_2) (.seq (.cond (.t 8) (.skip) (.exit 0)) (.seq (.block 1 (.seq (.reg r99_3) (.seq (.reg r99_4) (.cond (.t 34) (.seq (.reg r99_5) (.ret)) (.skip))))) (.reg r99_6)))
@[simp] theorem l99_0e (K : Orc) (s : St) : exec K l99_0 s = exec K (.seq (.reg r99_2) (.seq (.cond (.t 8) (.skip) (.exit 0)) (.seq (.block 1 (.seq (.reg r99_3) (.seq (.reg r99_4) (.cond (.t 34) (.seq (.reg r99_5) (.ret)) (.skip))))) (.reg r99_6)))) s:=rfl
@[simp] def r99_7 : AReg:=⟨[],[],[
  ⟨some 2,.mv (.c (.dat (.bool true))),none,false⟩],[]⟩
@[simp] def fn99 : AFun:=⟨1,[.t 2],false,
 .seq (.reg r99_0) (.seq (.seq (.reg r99_1) (.block 0 (.loop l99_0))) (.seq (.reg r99_7) (.ret))),none⟩
theorem c99 : cFun Tryz.prog ann99 false 99 = some fn99:=by kernel_rfl
def ann118 : Ann:=[{ id:=0,live:=[0,1] },
 { id:=1,live:=[0,1] },
 { id:=2,live:=[0,1,7,8] },
 { id:=3,live:=[0,1,7,8] },
 { id:=4,live:=[0,1,5,7,8] },
 { id:=5,live:=[5] },
 { id:=6,live:=[0,1,7,8] },
 { id:=7,live:=[] }]
@[simp] def r118_0 : AReg:=⟨[0,1],[],[
  ⟨some 4,.mv (.c (.dat (.int .i64 0))),none,false⟩],[]⟩
@[simp] def r118_1 : AReg:=⟨[0,1],[],[
  ⟨some 6,.mv (.t 0),none,false⟩,
  ⟨some 7,.len false (.t 6),none,false⟩,
  ⟨some 8,.mv (.c (.dat (.int .i64 0))),none,false⟩],[]⟩
@[simp] def r118_2 : AReg:=⟨[0,1,7,8],[],[
  ⟨some 9,.bin .int .lss (.t 8) (.t 7),none,false⟩],[]⟩
@[simp] def r118_3 : AReg:=⟨[0,1,7,8],[],[
  ⟨some 10,.mv (.t 8),none,false⟩,
  ⟨some 5,.mv (.t 10),none,false⟩],[]⟩
@[simp] def r118_4 : AReg:=⟨[0,1,5,7,8],[],[
  ⟨some 11,.mv (.t 1),none,false⟩,
  ⟨some 12,.mv (.t 0),none,false⟩,
  ⟨some 13,.mv (.t 5),none,false⟩,
  ⟨some 14,.iAddr 9 (.t 12) (.t 13),none,false⟩,
  ⟨some 15,.ld 9 true (.t 14),none,false⟩,
  ⟨some 16,.callV (.t 11) [((.t 15),false)] true,none,false⟩],[]⟩
@[simp] def r118_5 : AReg:=⟨[5],[],[
  ⟨some 17,.mv (.t 5),none,false⟩,
  ⟨some 4,.mv (.t 17),none,false⟩],[]⟩
@[simp] def r118_6 : AReg:=⟨[0,1,7,8],[],[
  ⟨some 18,.bin .int .add (.t 8) (.c (.dat (.int .i64 1))),none,false⟩,
  ⟨some 8,.mv (.t 18),none,false⟩],[]⟩
def l118_0 : AC:=.seq (.reg r118_2) (.seq (.cond (.t 9) (.skip) (.exit 0)) (.seq (.block 1 (.seq (.reg r118_3) (.seq (.reg r118_4) (.cond (.t 16) (.seq (.reg r118_5) (.ret)) (.skip))))) (.reg r118_6)))
@[simp] theorem l118_0e (K : Orc) (s : St) : exec K l118_0 s = exec K (.seq (.reg r118_2) (.seq (.cond (.t 9) (.skip) (.exit 0)) (.seq (.block 1 (.seq (.reg r118_3) (.seq (.reg r118_4) (.cond (.t 16) (.seq (.reg r118_5) (.ret)) (.skip))))) (.reg r118_6)))) s:=rfl
@[simp] def r118_7 : AReg:=⟨[],[],[
  ⟨some 4,.mv (.c (.dat (.int .i64 (-1)))),none,false⟩],[]⟩
@[simp] def fn118 : AFun:=⟨2,[.t 4],false,
 .seq (.reg r118_0) (.seq (.seq (.reg r118_1) (.block 0 (.loop l118_0))) (.seq (.reg r118_7) (.ret))),none⟩
theorem c118 : cFun Tryz.prog ann118 false 118 = some fn118:=by kernel_rfl
def ann119 : Ann:=[{ id:=0,live:=[0] },
 { id:=1,live:=[0] }]
@[simp] def r119_0 : AReg:=⟨[0],[],[
  ⟨some 2,.mv (.c (.dat (.bool false))),none,false⟩],[]⟩
@[simp] def r119_1 : AReg:=⟨[0],[],[
  ⟨some 3,.mv (.t 0),none,false⟩,
  ⟨some 4,.bin .int .lss (.t 3) (.c (.dat (.int .i64 0))),none,false⟩,
  ⟨some 2,.mv (.t 4),none,false⟩],[]⟩
@[simp] def fn119 : AFun:=⟨1,[.t 2],false,
 .seq (.reg r119_0) (.seq (.reg r119_1) (.ret)),none⟩
theorem c119 : cFun Tryz.prog ann119 false 119 = some fn119:=by kernel_rfl
def ann120 : Ann:=[{ id:=0,live:=[0] },
 { id:=1,live:=[0] }]
@[simp] def r120_0 : AReg:=⟨[0],[],[
  ⟨some 2,.mv (.c (.dat (.bool false))),none,false⟩],[]⟩
@[simp] def r120_1 : AReg:=⟨[0],[],[
  ⟨some 3,.mv (.t 0),none,false⟩,
  ⟨some 4,.bin .int .lss (.t 3) (.c (.dat (.int .i64 0))),none,false⟩,
  ⟨some 2,.mv (.t 4),none,false⟩],[]⟩
@[simp] def fn120 : AFun:=⟨1,[.t 2],false,
 .seq (.reg r120_0) (.seq (.reg r120_1) (.ret)),none⟩
theorem c120 : cFun Tryz.prog ann120 false 120 = some fn120:=by kernel_rfl
def ann121 : Ann:=[{ id:=0,live:=[0] },
 { id:=1,live:=[1] },
 { id:=2,live:=[1,4] },
 { id:=3,live:=[1] },
 { id:=4,live:=[1,4] },
 { id:=5,live:=[1,4] },
 { id:=6,live:=[1,4] },
 { id:=7,live:=[1] },
 { id:=8,live:=[1,4] },
 { id:=9,live:=[1,4] },
 { id:=10,live:=[1,4] },
 { id:=11,live:=[1,4] },
 { id:=12,live:=[1] },
 { id:=13,live:=[1,4] },
 { id:=14,live:=[1,4] },
 { id:=15,live:=[1] },
 { id:=16,live:=[1] }]
@[simp] def r121_0 : AReg:=⟨[0],[],[
  ⟨some 1,.box 9 (.t 0),none,false⟩,
  ⟨some 2,.mv (.c (.dat (.bool false))),none,false⟩],[]⟩
@[simp] def r121_1 : AReg:=⟨[1],[],[
  ⟨some 3,.fAddr 2 (.t 1),none,false⟩,
  ⟨some 4,.ld 1 false (.t 3),none,false⟩],[]⟩
@[simp] def r121_2 : AReg:=⟨[1,4],[],[
  ⟨some 6,.bin .int .eql (.t 4) (.c (.dat (.int .i64 7))),none,false⟩,
  ⟨some 5,.mv (.t 6),none,false⟩],[]⟩
@[simp] def r121_3 : AReg:=⟨[1],[],[
  ⟨some 7,.fAddr 3 (.t 1),none,false⟩,
  ⟨some 8,.ld 1 false (.t 7),none,false⟩,
  ⟨some 9,.bin .int .eql (.t 8) (.c (.dat (.int .i64 0))),none,false⟩,
  ⟨some 2,.mv (.t 9),none,false⟩],[]⟩
@[simp] def r121_4 : AReg:=⟨[1,4],[],[
  ⟨some 11,.bin .int .eql (.t 4) (.c (.dat (.int .i64 9))),none,false⟩,
  ⟨some 10,.mv (.t 11),none,false⟩],[]⟩
@[simp] def r121_5 : AReg:=⟨[1,4],[],[
  ⟨some 12,.bin .int .eql (.t 4) (.c (.dat (.int .i64 10))),none,false⟩,
  ⟨some 10,.mv (.t 12),none,false⟩],[]⟩
@[simp] def r121_6 : AReg:=⟨[1,4],[],[
  ⟨some 13,.bin .int .eql (.t 4) (.c (.dat (.int .i64 11))),none,false⟩,
  ⟨some 10,.mv (.t 13),none,false⟩],[]⟩
@[simp] def r121_7 : AReg:=⟨[1],[],[
  ⟨some 14,.fAddr 3 (.t 1),none,false⟩,
  ⟨some 15,.ld 1 false (.t 14),none,false⟩,
  ⟨some 16,.call 127 [((.t 15),false),((.c (.dat (.int .i64 4))),false)] true,none,false⟩,
  ⟨some 2,.mv (.t 16),none,false⟩],[]⟩
@[simp] def r121_8 : AReg:=⟨[1,4],[],[
  ⟨some 18,.bin .int .eql (.t 4) (.c (.dat (.int .i64 12))),none,false⟩,
  ⟨some 17,.mv (.t 18),none,false⟩],[]⟩
@[simp] def r121_9 : AReg:=⟨[1,4],[],[
  ⟨some 19,.bin .int .eql (.t 4) (.c (.dat (.int .i64 13))),none,false⟩,
  ⟨some 17,.mv (.t 19),none,false⟩],[]⟩
@[simp] def r121_10 : AReg:=⟨[1,4],[],[
  ⟨some 20,.bin .int .eql (.t 4) (.c (.dat (.int .i64 14))),none,false⟩,
  ⟨some 17,.mv (.t 20),none,false⟩],[]⟩
@[simp] def r121_11 : AReg:=⟨[1,4],[],[
  ⟨some 21,.bin .int .eql (.t 4) (.c (.dat (.int .i64 15))),none,false⟩,
  ⟨some 17,.mv (.t 21),none,false⟩],[]⟩
@[simp] def r121_12 : AReg:=⟨[1],[],[
  ⟨some 22,.fAddr 3 (.t 1),none,false⟩,
  ⟨some 23,.ld 1 false (.t 22),none,false⟩,
  ⟨some 24,.call 127 [((.t 23),false),((.c (.dat (.int .i64 4))),false)] true,none,false⟩,
  ⟨some 2,.mv (.t 24),none,false⟩],[]⟩
@[simp] def r121_13 : AReg:=⟨[1,4],[],[
  ⟨some 26,.bin .int .eql (.t 4) (.c (.dat (.int .i64 16))),none,false⟩,
  ⟨some 25,.mv (.t 26),none,false⟩],[]⟩
@[simp] def r121_14 : AReg:=⟨[1,4],[],[
  ⟨some 27,.bin .int .eql (.t 4) (.c (.dat (.int .i64 17))),none,false⟩,
  ⟨some 25,.mv (.t 27),none,false⟩],[]⟩
@[simp] def r121_15 : AReg:=⟨[1],[],[
  ⟨some 28,.fAddr 3 (.t 1),none,false⟩,
  ⟨some 29,.ld 1 false (.t 28),none,false⟩,
  ⟨some 30,.bin .int .geq (.t 29) (.c (.dat (.int .i64 0))),none,false⟩,
  ⟨some 2,.mv (.t 30),none,false⟩],[]⟩
@[simp] def r121_16 : AReg:=⟨[1],[],[
  ⟨some 31,.fAddr 3 (.t 1),none,false⟩,
  ⟨some 32,.ld 1 false (.t 31),none,false⟩,
  ⟨some 33,.call 127 [((.t 32),false),((.c (.dat (.int .i64 8))),false)] true,none,false⟩,
  ⟨some 2,.mv (.t 33),none,false⟩],[]⟩
@[simp] def fn121 : AFun:=⟨1,[.t 2],false,
 .seq (.reg r121_0) (.seq (.seq (.reg r121_1) (.block 0 (.seq (.reg r121_2) (.cond (.t 5) (.seq (.reg r121_3) (.ret)) (.seq (.seq (.reg r121_4) (.cond (.t 10) (.skip) (.seq (.reg r121_5) (.cond (.t 10) (.skip) (.reg r121_6))))) (.cond (.t 10) (.seq (.reg r121_7) (.ret)) (.seq (.seq (.reg r121_8) (.cond (.t 17) (.skip) (.seq (.reg r121_9) (.cond (.t 17) (.skip) (.seq (.reg r121_10) (.cond (.t 17) (.skip) (.reg r121_11))))))) (.cond (.t 17) (.seq (.reg r121_12) (.ret)) (.seq (.seq (.reg r121_13) (.cond (.t 25) (.skip) (.reg r121_14))) (.cond (.t 25) (.seq (.reg r121_15) (.ret)) (.skip))))))))))) (.seq (.reg r121_16) (.ret))),none⟩
theorem c121 : cFun Tryz.prog ann121 false 121 = some fn121:=by kernel_rfl
def ann122 : Ann:=[{ id:=0,live:=[0] },
 { id:=1,live:=[1] },
 { id:=2,live:=[1,4] },
 { id:=3,live:=[1,4] },
 { id:=4,live:=[1] },
 { id:=5,live:=[1,4] },
 { id:=6,live:=[1] },
 { id:=7,live:=[1] }]
@[simp] def r122_0 : AReg:=⟨[0],[],[
  ⟨some 1,.box 9 (.t 0),none,false⟩,
  ⟨some 2,.mv (.c (.dat (.bool false))),none,false⟩],[]⟩
@[simp] def r122_1 : AReg:=⟨[1],[],[
  ⟨some 3,.fAddr 2 (.t 1),none,false⟩,
  ⟨some 4,.ld 1 false (.t 3),none,false⟩],[]⟩
@[simp] def r122_2 : AReg:=⟨[1,4],[],[
  ⟨some 6,.bin .int .eql (.t 4) (.c (.dat (.int .i64 11))),none,false⟩,
  ⟨some 5,.mv (.t 6),none,false⟩],[]⟩
@[simp] def r122_3 : AReg:=⟨[1,4],[],[
  ⟨some 7,.bin .int .eql (.t 4) (.c (.dat (.int .i64 14))),none,false⟩,
  ⟨some 5,.mv (.t 7),none,false⟩],[]⟩
@[simp] def r122_4 : AReg:=⟨[1],[],[
  ⟨some 8,.fAddr 7 (.t 1),none,false⟩,
  ⟨some 9,.ld 1 false (.t 8),none,false⟩,
  ⟨some 10,.call 127 [((.t 9),false),((.c (.dat (.int .i64 2))),false)] true,none,false⟩,
  ⟨some 2,.mv (.t 10),none,false⟩],[]⟩
@[simp] def r122_5 : AReg:=⟨[1,4],[],[
  ⟨some 12,.bin .int .eql (.t 4) (.c (.dat (.int .i64 15))),none,false⟩,
  ⟨some 11,.mv (.t 12),none,false⟩],[]⟩
@[simp] def r122_6 : AReg:=⟨[1],[],[
  ⟨some 13,.fAddr 7 (.t 1),none,false⟩,
  ⟨some 14,.ld 1 false (.t 13),none,false⟩,
  ⟨some 15,.bin .int .geq (.t 14) (.c (.dat (.int .i64 0))),none,false⟩,
  ⟨some 2,.mv (.t 15),none,false⟩],[]⟩
@[simp] def r122_7 : AReg:=⟨[1],[],[
  ⟨some 16,.fAddr 7 (.t 1),none,false⟩,
  ⟨some 17,.ld 1 false (.t 16),none,false⟩,
  ⟨some 18,.call 125 [((.t 17),false)] true,none,false⟩,
  ⟨some 19,.mv (.t 18),none,false⟩,
  ⟨some 20,.fAddr 2 (.t 1),some (19,true),false⟩,
  ⟨some 21,.ld 1 false (.t 20),some (19,true),false⟩,
  ⟨some 22,.call 128 [((.t 21),false)] true,some (19,true),false⟩,
  ⟨some 23,.mv (.t 22),some (19,true),false⟩,
  ⟨some 24,.fAddr 7 (.t 1),some (23,false),false⟩,
  ⟨some 25,.ld 1 false (.t 24),some (23,false),false⟩,
  ⟨some 26,.bin .int .eql (.t 25) (.c (.dat (.int .i64 0))),some (23,false),false⟩,
  ⟨some 27,.pick (.t 23) (.c (.dat (.bool true))) (.t 26),some (19,true),false⟩,
  ⟨some 28,.pick (.t 19) (.t 27) (.c (.dat (.bool false))),none,false⟩,
  ⟨some 2,.mv (.t 28),none,false⟩],[]⟩
@[simp] def fn122 : AFun:=⟨1,[.t 2],false,
 .seq (.reg r122_0) (.seq (.seq (.reg r122_1) (.block 0 (.seq (.seq (.reg r122_2) (.cond (.t 5) (.skip) (.reg r122_3))) (.cond (.t 5) (.seq (.reg r122_4) (.ret)) (.seq (.reg r122_5) (.cond (.t 11) (.seq (.reg r122_6) (.ret)) (.skip))))))) (.seq (.reg r122_7) (.ret))),none⟩
theorem c122 : cFun Tryz.prog ann122 false 122 = some fn122:=by kernel_rfl
def ann123 : Ann:=[{ id:=0,live:=[0] },
 { id:=1,live:=[1] },
 { id:=2,live:=[1,4] },
 { id:=3,live:=[1,4] },
 { id:=4,live:=[1] },
 { id:=5,live:=[1,4] },
 { id:=6,live:=[1,4] },
 { id:=7,live:=[1] },
 { id:=8,live:=[1] }]
@[simp] def r123_0 : AReg:=⟨[0],[],[
  ⟨some 1,.box 9 (.t 0),none,false⟩,
  ⟨some 2,.mv (.c (.dat (.bool false))),none,false⟩],[]⟩
@[simp] def r123_1 : AReg:=⟨[1],[],[
  ⟨some 3,.fAddr 2 (.t 1),none,false⟩,
  ⟨some 4,.ld 1 false (.t 3),none,false⟩],[]⟩
@[simp] def r123_2 : AReg:=⟨[1,4],[],[
  ⟨some 6,.bin .int .eql (.t 4) (.c (.dat (.int .i64 1))),none,false⟩,
  ⟨some 5,.mv (.t 6),none,false⟩],[]⟩
@[simp] def r123_3 : AReg:=⟨[1,4],[],[
  ⟨some 7,.bin .int .eql (.t 4) (.c (.dat (.int .i64 8))),none,false⟩,
  ⟨some 5,.mv (.t 7),none,false⟩],[]⟩
@[simp] def r123_4 : AReg:=⟨[1],[],[
  ⟨some 8,.fAddr 5 (.t 1),none,false⟩,
  ⟨some 9,.ld 1 false (.t 8),none,false⟩,
  ⟨some 10,.bin .int .geq (.t 9) (.c (.dat (.int .i64 (-1)))),none,false⟩,
  ⟨some 2,.mv (.t 10),none,false⟩],[]⟩
@[simp] def r123_5 : AReg:=⟨[1,4],[],[
  ⟨some 12,.bin .int .eql (.t 4) (.c (.dat (.int .i64 3))),none,false⟩,
  ⟨some 11,.mv (.t 12),none,false⟩],[]⟩
@[simp] def r123_6 : AReg:=⟨[1,4],[],[
  ⟨some 13,.bin .int .eql (.t 4) (.c (.dat (.int .i64 4))),none,false⟩,
  ⟨some 11,.mv (.t 13),none,false⟩],[]⟩
@[simp] def r123_7 : AReg:=⟨[1],[],[
  ⟨some 14,.fAddr 5 (.t 1),none,false⟩,
  ⟨some 15,.ld 1 false (.t 14),none,false⟩,
  ⟨some 16,.bin .int .geq (.t 15) (.c (.dat (.int .i64 0))),none,false⟩,
  ⟨some 2,.mv (.t 16),none,false⟩],[]⟩
@[simp] def r123_8 : AReg:=⟨[1],[],[
  ⟨some 17,.fAddr 5 (.t 1),none,false⟩,
  ⟨some 18,.ld 1 false (.t 17),none,false⟩,
  ⟨some 19,.bin .int .eql (.t 18) (.c (.dat (.int .i64 (-1)))),none,false⟩,
  ⟨some 2,.mv (.t 19),none,false⟩],[]⟩
@[simp] def fn123 : AFun:=⟨1,[.t 2],false,
 .seq (.reg r123_0) (.seq (.seq (.reg r123_1) (.block 0 (.seq (.seq (.reg r123_2) (.cond (.t 5) (.skip) (.reg r123_3))) (.cond (.t 5) (.seq (.reg r123_4) (.ret)) (.seq (.seq (.reg r123_5) (.cond (.t 11) (.skip) (.reg r123_6))) (.cond (.t 11) (.seq (.reg r123_7) (.ret)) (.skip))))))) (.seq (.reg r123_8) (.ret))),none⟩
theorem c123 : cFun Tryz.prog ann123 false 123 = some fn123:=by kernel_rfl
def ann124 : Ann:=[{ id:=0,live:=[0] },
 { id:=1,live:=[0] }]
@[simp] def r124_0 : AReg:=⟨[0],[],[
  ⟨some 2,.mv (.c (.dat (.bool false))),none,false⟩],[]⟩
@[simp] def r124_1 : AReg:=⟨[0],[],[
  ⟨some 3,.mv (.t 0),none,false⟩,
  ⟨some 4,.bin .int .eql (.t 3) (.c (.dat (.int .i64 1))),none,false⟩,
  ⟨some 5,.mv (.t 4),none,false⟩,
  ⟨some 6,.mv (.t 0),some (5,false),false⟩,
  ⟨some 7,.bin .int .eql (.t 6) (.c (.dat (.int .i64 2))),some (5,false),false⟩,
  ⟨some 8,.pick (.t 5) (.c (.dat (.bool true))) (.t 7),none,false⟩,
  ⟨some 9,.mv (.t 8),none,false⟩,
  ⟨some 10,.mv (.t 0),some (9,false),false⟩,
  ⟨some 11,.bin .int .eql (.t 10) (.c (.dat (.int .i64 3))),some (9,false),false⟩,
  ⟨some 12,.pick (.t 9) (.c (.dat (.bool true))) (.t 11),none,false⟩,
  ⟨some 13,.mv (.t 12),none,false⟩,
  ⟨some 14,.mv (.t 0),some (13,false),false⟩,
  ⟨some 15,.bin .int .eql (.t 14) (.c (.dat (.int .i64 5))),some (13,false),false⟩,
  ⟨some 16,.pick (.t 13) (.c (.dat (.bool true))) (.t 15),none,false⟩,
  ⟨some 17,.mv (.t 16),none,false⟩,
  ⟨some 18,.mv (.t 0),some (17,false),false⟩,
  ⟨some 19,.bin .int .eql (.t 18) (.c (.dat (.int .i64 6))),some (17,false),false⟩,
  ⟨some 20,.pick (.t 17) (.c (.dat (.bool true))) (.t 19),none,false⟩,
  ⟨some 21,.mv (.t 20),none,false⟩,
  ⟨some 22,.mv (.t 0),some (21,false),false⟩,
  ⟨some 23,.bin .int .eql (.t 22) (.c (.dat (.int .i64 8))),some (21,false),false⟩,
  ⟨some 24,.pick (.t 21) (.c (.dat (.bool true))) (.t 23),none,false⟩,
  ⟨some 2,.mv (.t 24),none,false⟩],[]⟩
@[simp] def fn124 : AFun:=⟨1,[.t 2],false,
 .seq (.reg r124_0) (.seq (.reg r124_1) (.ret)),none⟩
theorem c124 : cFun Tryz.prog ann124 false 124 = some fn124:=by kernel_rfl
def ann125 : Ann:=[{ id:=0,live:=[0] },
 { id:=1,live:=[0] }]
@[simp] def r125_0 : AReg:=⟨[0],[],[
  ⟨some 2,.mv (.c (.dat (.bool false))),none,false⟩],[]⟩
@[simp] def r125_1 : AReg:=⟨[0],[],[
  ⟨some 3,.mv (.t 0),none,false⟩,
  ⟨some 4,.bin .int .geq (.t 3) (.c (.dat (.int .i64 (-2147483648)))),none,false⟩,
  ⟨some 5,.mv (.t 4),none,false⟩,
  ⟨some 6,.mv (.t 0),some (5,true),false⟩,
  ⟨some 7,.bin .int .leq (.t 6) (.c (.dat (.int .i64 2147483647))),some (5,true),false⟩,
  ⟨some 8,.pick (.t 5) (.t 7) (.c (.dat (.bool false))),none,false⟩,
  ⟨some 2,.mv (.t 8),none,false⟩],[]⟩
@[simp] def fn125 : AFun:=⟨1,[.t 2],false,
 .seq (.reg r125_0) (.seq (.reg r125_1) (.ret)),none⟩
theorem c125 : cFun Tryz.prog ann125 false 125 = some fn125:=by kernel_rfl
def ann126 : Ann:=[{ id:=0,live:=[0] },
 { id:=1,live:=[0] }]
@[simp] def r126_0 : AReg:=⟨[0],[],[
  ⟨some 2,.mv (.c (.dat (.bool false))),none,false⟩],[]⟩
@[simp] def r126_1 : AReg:=⟨[0],[],[
  ⟨some 3,.mv (.t 0),none,false⟩,
  ⟨some 4,.bin .int .eql (.t 3) (.c (.dat (.int .i64 2))),none,false⟩,
  ⟨some 5,.mv (.t 4),none,false⟩,
  ⟨some 6,.mv (.t 0),some (5,false),false⟩,
  ⟨some 7,.bin .int .eql (.t 6) (.c (.dat (.int .i64 3))),some (5,false),false⟩,
  ⟨some 8,.pick (.t 5) (.c (.dat (.bool true))) (.t 7),none,false⟩,
  ⟨some 9,.mv (.t 8),none,false⟩,
  ⟨some 10,.mv (.t 0),some (9,false),false⟩,
  ⟨some 11,.bin .int .eql (.t 10) (.c (.dat (.int .i64 4))),some (9,false),false⟩,
  ⟨some 12,.pick (.t 9) (.c (.dat (.bool true))) (.t 11),none,false⟩,
  ⟨some 13,.mv (.t 12),none,false⟩,
  ⟨some 14,.mv (.t 0),some (13,false),false⟩,
  ⟨some 15,.bin .int .eql (.t 14) (.c (.dat (.int .i64 5))),some (13,false),false⟩,
  ⟨some 16,.pick (.t 13) (.c (.dat (.bool true))) (.t 15),none,false⟩,
  ⟨some 2,.mv (.t 16),none,false⟩],[]⟩
@[simp] def fn126 : AFun:=⟨1,[.t 2],false,
 .seq (.reg r126_0) (.seq (.reg r126_1) (.ret)),none⟩
theorem c126 : cFun Tryz.prog ann126 false 126 = some fn126:=by kernel_rfl
def ann127 : Ann:=[{ id:=0,live:=[0,1] },
 { id:=1,live:=[0,1] }]
@[simp] def r127_0 : AReg:=⟨[0,1],[],[
  ⟨some 4,.mv (.c (.dat (.bool false))),none,false⟩],[]⟩
@[simp] def r127_1 : AReg:=⟨[0,1],[],[
  ⟨some 5,.mv (.t 0),none,false⟩,
  ⟨some 6,.bin .int .geq (.t 5) (.c (.dat (.int .i64 0))),none,false⟩,
  ⟨some 7,.mv (.t 6),none,false⟩,
  ⟨some 8,.mv (.t 0),some (7,true),false⟩,
  ⟨some 9,.mv (.t 1),some (7,true),false⟩,
  ⟨some 10,.bin .int .lss (.t 8) (.t 9),some (7,true),false⟩,
  ⟨some 11,.pick (.t 7) (.t 10) (.c (.dat (.bool false))),none,false⟩,
  ⟨some 4,.mv (.t 11),none,false⟩],[]⟩
@[simp] def fn127 : AFun:=⟨2,[.t 4],false,
 .seq (.reg r127_0) (.seq (.reg r127_1) (.ret)),none⟩
theorem c127 : cFun Tryz.prog ann127 false 127 = some fn127:=by kernel_rfl
def ann128 : Ann:=[{ id:=0,live:=[0] },
 { id:=1,live:=[0] }]
@[simp] def r128_0 : AReg:=⟨[0],[],[
  ⟨some 2,.mv (.c (.dat (.bool false))),none,false⟩],[]⟩
@[simp] def r128_1 : AReg:=⟨[0],[],[
  ⟨some 3,.mv (.t 0),none,false⟩,
  ⟨some 4,.bin .int .eql (.t 3) (.c (.dat (.int .i64 1))),none,false⟩,
  ⟨some 5,.mv (.t 4),none,false⟩,
  ⟨some 6,.mv (.t 0),some (5,false),false⟩,
  ⟨some 7,.bin .int .eql (.t 6) (.c (.dat (.int .i64 8))),some (5,false),false⟩,
  ⟨some 8,.pick (.t 5) (.c (.dat (.bool true))) (.t 7),none,false⟩,
  ⟨some 9,.mv (.t 8),none,false⟩,
  ⟨some 10,.mv (.t 0),some (9,false),false⟩,
  ⟨some 11,.bin .int .eql (.t 10) (.c (.dat (.int .i64 5))),some (9,false),false⟩,
  ⟨some 12,.pick (.t 9) (.c (.dat (.bool true))) (.t 11),none,false⟩,
  ⟨some 13,.mv (.t 12),none,false⟩,
  ⟨some 14,.mv (.t 0),some (13,false),false⟩,
  ⟨some 15,.bin .int .eql (.t 14) (.c (.dat (.int .i64 6))),some (13,false),false⟩,
  ⟨some 16,.pick (.t 13) (.c (.dat (.bool true))) (.t 15),none,false⟩,
  ⟨some 2,.mv (.t 16),none,false⟩],[]⟩
@[simp] def fn128 : AFun:=⟨1,[.t 2],false,
 .seq (.reg r128_0) (.seq (.reg r128_1) (.ret)),none⟩
theorem c128 : cFun Tryz.prog ann128 false 128 = some fn128:=by kernel_rfl
end Go.Am.W
