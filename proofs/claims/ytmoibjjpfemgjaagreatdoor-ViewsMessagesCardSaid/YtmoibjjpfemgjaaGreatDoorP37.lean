/- Parts of the proofs of the statement, joined and made short: AData ATabs. -/
import Derived.Test.YtmoibjjpfemgjaaGreatDoorP23
import Derived.Test.YtmoibjjpfemgjaaGreatDoorP36
set_option linter.unusedVariables false
set_option linter.unusedSimpArgs false
set_option linter.unusedSectionVars false
namespace Go.Am
namespace Mm
abbrev i (n:Int):Dat:=.int .i64 n
abbrev g (l:List Dat):Dat:=.agg l
abbrev l (l:List Dat):Dat:=.sl l
def d0:Dat:=(g [(l [(g [(.str [120]),(i 0)]),(g [(.str [121]),(i 0)])]),(l []),(l []),(l [(g [(.str [102]),(l [(g [(i 1),(i 1),(i 0),(i 0),(i 0),(i 1),(i 0),(i 0)]),(g [(i 9),(i 0),(i 1),(i 0),(i 0),(i 0),(i 0),(i 2)]),(g [(i 9),(i 0),(i 1),(i 0),(i 1),(i 0),(i 0),(i 2)])])]),(g [(.str [103]),(l [(g [(i 8),(i 2),(i 0),(i 0),(i 1),(i 0),(i 0),(i 2)]),(g [(i 8),(i 3),(i 0),(i 0),(i 0),(i 0),(i 0),(i 2)])])])]),(l [(g [(i 0),(i 0)]),(g [(i 1),(i 0)])])])
def d1:Dat:=(g [(l [(g [(i 0),(i 0),(i 3),(i 0),(i 1),(i 0),(i 0),(i 0),(i 0),(i 0),(i 0),(i 2),(i 0),(i 0),(i 2),(i 0),(l [])]),(g [(i 1),(i 1),(i 0),(i 0),(i 0),(i 0),(i 0),(i 0),(i 0),(i 0),(i 0),(i 0),(i 0),(i 0),(i 1),(i 0),(l [])])]),(l [(i 0),(i 0)]),(l []),(l []),(l []),(l [(l [(g [(i 0),(i 1),(l [(i 0),(i (-1))])])]),(l [(g [(i 1),(i 1),(l [(i 0),(i 1)])])])]),(l [(l [(i 0),(i 1)]),(l [(i (-1)),(i (-1))])]),(l []),(l []),(l [(g [(i 0),(i 0),(i 2),(i 0),(i (-1)),(i (-1)),(i 2),(i 0),(i 1)]),(g [(i 0),(i 1),(i 2),(i 1),(i (-1)),(i (-1)),(i 2),(i 0),(i 1)])]),(l [(i (-2)),(i (-2))]),(l [(l [(i 0)]),(l [(i 1)])])])
def d2:Dat:=(g [(l [(g [(i 0),(i 0),(i 3),(i 0),(i 1),(i 0),(i 0),(i 0),(i 0),(i 0),(i 0),(i 2),(i 0),(i 0),(i 2),(i 0),(l [])]),(g [(i 1),(i 1),(i 1),(i 0),(i 0),(i 1),(i 0),(i 0),(i 0),(i 0),(i 0),(i 1),(i 0),(i 0),(i 1),(i 0),(l [])])]),(l [(i 0),(i 0)]),(l []),(l []),(l []),(l [(l [(g [(i 0),(i 1),(l [(i 0),(i (-1))])])]),(l [(g [(i 1),(i 1),(l [(i 0),(i 1)])])])]),(l [(l [(i 0),(i 1)]),(l [(i 0),(i 1)])]),(l []),(l []),(l [(g [(i 0),(i 0),(i 2),(i 0),(i (-1)),(i (-1)),(i 2),(i 0),(i 1)]),(g [(i 0),(i 1),(i 2),(i 1),(i (-1)),(i (-1)),(i 2),(i 0),(i 1)]),(g [(i 1),(i 0),(i 1),(i 1),(i (-1)),(i (-1)),(i 2),(i 1),(i 0)])]),(l [(i (-2)),(i (-2)),(i 1)]),(l [(l [(i 0)]),(l [(i 1)])])])
def d3:Dat:=(g [(i 0),(i 0),(i 1),(i 0),(i 1),(i 0),(i 0),(i 0),(i 0),(i 0),(i 0),(i 0),(i 0),(i 0),(i 1),(i 0),(l [])])
def d4:Dat:=(g [(i 1),(i 1),(i 0),(i 0),(i 0),(i 0),(i 0),(i 0),(i 0),(i 0),(i 0),(i 0),(i 0),(i 0),(i 1),(i 0),(l [])])
def d5:Dat:=(g [(l [(g [(i 0),(i 0),(i 1),(i 0),(i 1),(i 0),(i 0),(i 0),(i 0),(i 0),(i 0),(i 0),(i 0),(i 0),(i 1),(i 0),(l [])]),(g [(i 1),(i 1),(i 0),(i 0),(i 0),(i 0),(i 0),(i 0),(i 0),(i 0),(i 0),(i 0),(i 0),(i 0),(i 1),(i 0),(l [])])]),(l [(i 0),(i 0)]),(l []),(l []),(l []),(l [(l []),(l [])]),(l [(l [(i (-1)),(i (-1))]),(l [(i (-1)),(i (-1))])]),(l []),(l []),(l []),(l []),(l [(l []),(l [])])])
def d6:Dat:=(g [(i 0),(i 0),(i 2),(i 0),(i 1),(i 0),(i 0),(i 0),(i 0),(i 0),(i 0),(i 1),(i 0),(i 0),(i 1),(i 0),(l [])])
def d7:Dat:=(g [(l [(g [(i 0),(i 0),(i 2),(i 0),(i 1),(i 0),(i 0),(i 0),(i 0),(i 0),(i 0),(i 1),(i 0),(i 0),(i 1),(i 0),(l [])]),(g [(i 1),(i 1),(i 0),(i 0),(i 0),(i 0),(i 0),(i 0),(i 0),(i 0),(i 0),(i 0),(i 0),(i 0),(i 1),(i 0),(l [])])]),(l [(i 0),(i 0)]),(l []),(l []),(l []),(l [(l [(g [(i 0),(i 1),(l [(i 0),(i (-1))])])]),(l [])]),(l [(l [(i 0),(i (-1))]),(l [(i (-1)),(i (-1))])]),(l []),(l []),(l [(g [(i 0),(i 0),(i 2),(i 0),(i (-1)),(i (-1)),(i 2),(i 0),(i 1)])]),(l [(i (-2))]),(l [(l [(i 0)]),(l [])])])
def d8:Dat:=(g [(i 0),(i 0),(i 3),(i 0),(i 1),(i 0),(i 0),(i 0),(i 0),(i 0),(i 0),(i 2),(i 0),(i 0),(i 2),(i 0),(l [])])
def e1_0:List Ent:=[
 ⟨71,[d0],(.tup [.dat (i 0),.dat (i (-1)),.dat (i (-1))])⟩,
 ⟨37,[d0,d2,(i 0)],(.dat (l []))⟩]
def e1:List Ent:=e1_0
def e2_0:List Ent:=[
 ⟨98,[d0,(i 8)],(.dat (i 0))⟩,
 ⟨98,[d0,(i 32)],(.dat (i 0))⟩]
def e2:List Ent:=e2_0
def e3_0:List Ent:=[
 ⟨21,[d0,(i 8)],(.tup [.dat d5,.dat (i 0)])⟩,
 ⟨73,[d0,(i 8),d3],(.dat (.bool true))⟩,
 ⟨73,[d0,(i 8),d4],(.dat (.bool true))⟩,
 ⟨73,[d0,(i 32),d3],(.dat (.bool true))⟩,
 ⟨73,[d0,(i 8),d6],(.dat (.bool true))⟩,
 ⟨73,[d0,(i 32),d6],(.dat (.bool true))⟩,
 ⟨73,[d0,(i 32),d8],(.dat (.bool true))⟩,
 ⟨73,[d0,(i 32),d4],(.dat (.bool true))⟩,
 ⟨73,[d0,(i 8),d8],(.dat (.bool true))⟩,
 ⟨73,[d0,(i 32),(g [(i 1),(i 1),(i 1),(i 0),(i 0),(i 1),(i 0),(i 0),(i 0),(i 0),(i 0),(i 1),(i 0),(i 0),(i 1),(i 0),(l [])])],(.dat (.bool true))⟩]
def e3:List Ent:=e3_0
def e4_0:List Ent:=[
 ⟨35,[d0,(i 8),d5],(.dat (.bool true))⟩,
 ⟨37,[d0,d5,(i 0)],(.dat (l [(i 1)]))⟩,
 ⟨35,[d0,(i 8),d7],(.dat (.bool true))⟩,
 ⟨37,[d0,d7,(i 0)],(.dat (l [(i 1)]))⟩,
 ⟨35,[d0,(i 32),d1],(.dat (.bool true))⟩,
 ⟨37,[d0,d1,(i 1)],(.dat (l [(i 0),(i 1)]))⟩,
 ⟨35,[d0,(i 8),d1],(.dat (.bool true))⟩,
 ⟨35,[d0,(i 32),d2],(.dat (.bool true))⟩,
 ⟨37,[d0,d2,(i 1)],(.dat (l [(i 1)]))⟩]
def e4:List Ent:=e4_0
def e5_0:List Ent:=[
 ⟨11,[],(.dat (.bool true))⟩]
def e5:List Ent:=e5_0
end Mm
end Go.Am

namespace Go.Am
open Go.Proofs
noncomputable def tfM (f:FuncId):Option AFun:=if [11,71,98,73,35,37,21].contains f then none else tfX f
noncomputable def T0:Tab:={ fn:=tfM,law:=insV,lp:=tlX }
noncomputable def T1:Tab:={ T0 with law:=memoL Mm.e1 T0.law }
noncomputable def T2:Tab:={ T1 with law:=memoL Mm.e2 T1.law }
noncomputable def T3:Tab:={ T2 with law:=memoL Mm.e3 T2.law }
noncomputable def T4:Tab:={ T3 with law:=memoL Mm.e4 T3.law }
noncomputable def T5:Tab:={ T4 with law:=memoL Mm.e5 T4.law }
end Go.Am
