/- Parts of the proofs of the statement, joined and made short: ESort. -/
import Derived.Test.YtmoibjjpfemgjaaGreatDoorP23
set_option linter.unusedVariables false
set_option linter.unusedSimpArgs false
set_option linter.unusedSectionVars false
namespace Go.Am
def insS (x:Int):List Int→List Int
 |[]=>[x]
 |y::r=>if x≤y then x::y::r else y::insS x r
def sortS:List Int→List Int
 |[]=>[]
 |x::r=>insS x (sortS r)
def intsD:List Dat→Option (List Int)
 |[]=>some []
 |.int .i64 n::r=>(intsD r).map (n::·)
 |_=>none
def sortE (fs:FuncId):Orc:=fun f args os=>
 if f=fs then
  match args,os with
  |[.rsl ((0,0),0,0) ver 1 0 len],[.plain (.arr 1 ver' false es)]=>match intsD es with
   |some l=>if ver=ver'∧len=es.length∧len<10000000000 then some (.tup [],[.plain (.arr 1 ver false ((sortS l).map fun n=>.int .i64 n))]) else none
   |none=>none
  |[.cap0],[]=>some (.tup [],[])
  |_,_=>none
 else none
end Go.Am
