/- Parts of the proofs of the statement, joined and made short: XTb YC YTbl. -/
import Derived.Test.YtmoibjjpfemgjaaGreatDoorP21
import Derived.Test.YtmoibjjpfemgjaaGreatDoorP22
import Derived.Test.YtmoibjjpfemgjaaGreatDoorP27
import Derived.Test.YtmoibjjpfemgjaaGreatDoorP35
import Derived.Test.YtmoibjjpfemgjaaGreatDoorP20
set_option linter.unusedVariables false
set_option linter.unusedSimpArgs false
set_option linter.unusedSectionVars false
set_option maxRecDepth 10000
set_option maxHeartbeats 4000000
namespace Go.Am.E
open Go.Proofs
theorem tfE_ok:∀f fn,tfE f=some fn→∃an keep g,cFun Tryz.prog an keep f=some g∧fn={ g with split:=fn.split }:=by
 intro f fn h;unfold tfE at h;split at h
 ·cases h;exact⟨_,_,_,c7,rfl⟩
 ·cases h;exact⟨_,_,_,c9,rfl⟩
 ·cases h;exact⟨_,_,_,c17,rfl⟩
 ·cases h;exact⟨_,_,_,c21,rfl⟩
 ·cases h;exact⟨_,_,_,c24,rfl⟩
 ·cases h;exact⟨_,_,_,c25,rfl⟩
 ·cases h;exact⟨_,_,_,c27,rfl⟩
 ·cases h;exact⟨_,_,_,c29,rfl⟩
 ·cases h;exact⟨_,_,_,c32,rfl⟩
 ·cases h;exact⟨_,_,_,c34,rfl⟩
 ·cases h;exact⟨_,_,_,c35,rfl⟩
 ·cases h;exact⟨_,_,_,c36,rfl⟩
 ·cases h;exact⟨_,_,_,c37,rfl⟩
 ·cases h;exact⟨_,_,_,c41,rfl⟩
 ·cases h;exact⟨_,_,_,c42,rfl⟩
 ·cases h;exact⟨_,_,_,c43,rfl⟩
 ·cases h;exact⟨_,_,_,c44,rfl⟩
 ·cases h;exact⟨_,_,_,c45,rfl⟩
 ·cases h;exact⟨_,_,_,c59,rfl⟩
 ·cases h;exact⟨_,_,_,c60,rfl⟩
 ·cases h;exact⟨_,_,_,c61,rfl⟩
 ·cases h;exact⟨_,_,_,c62,rfl⟩
 ·cases h;exact⟨_,_,_,c63,rfl⟩
 ·cases h;exact⟨_,_,_,c64,rfl⟩
 ·cases h;exact⟨_,_,_,c65,rfl⟩
 ·cases h;exact⟨_,_,_,c66,rfl⟩
 ·cases h;exact⟨_,_,_,c67,rfl⟩
 ·cases h;exact⟨_,_,_,c68,rfl⟩
 ·cases h;exact⟨_,_,_,c69,rfl⟩
 ·cases h;exact⟨_,_,_,c70,rfl⟩
 ·cases h;exact⟨_,_,_,c71,rfl⟩
 ·cases h;exact⟨_,_,_,c72,rfl⟩
 ·cases h;exact⟨_,_,_,c73,rfl⟩
 ·cases h;exact⟨_,_,_,c74,rfl⟩
 ·cases h;exact⟨_,_,_,c75,rfl⟩
 ·cases h;exact⟨_,_,_,c76,rfl⟩
 ·cases h;exact⟨_,_,_,c77,rfl⟩
 ·cases h;exact⟨_,_,_,c78,rfl⟩
 ·cases h;exact⟨_,_,_,c79,rfl⟩
 ·cases h;exact⟨_,_,_,c80,rfl⟩
 ·cases h;exact⟨_,_,_,c81,rfl⟩
 ·cases h;exact⟨_,_,_,c90,rfl⟩
 ·cases h;exact⟨_,_,_,c91,rfl⟩
 ·cases h;exact⟨_,_,_,c92,rfl⟩
 ·cases h;exact⟨_,_,_,c93,rfl⟩
 ·cases h;exact⟨_,_,_,c94,rfl⟩
 ·cases h;exact⟨_,_,_,c95,rfl⟩
 ·cases h;exact⟨_,_,_,c96,rfl⟩
 ·cases h;exact⟨_,_,_,c97,rfl⟩
 ·cases h;exact⟨_,_,_,c98,rfl⟩
 ·cases h;exact⟨_,_,_,c99,rfl⟩
 ·cases h;exact⟨_,_,_,c100,rfl⟩
 ·cases h;exact⟨_,_,_,c101,rfl⟩
 ·cases h;exact⟨_,_,_,c102,rfl⟩
 ·cases h;exact⟨_,_,_,c103,rfl⟩
 ·cases h;exact⟨_,_,_,c104,rfl⟩
 ·cases h;exact⟨_,_,_,c105,rfl⟩
 ·cases h;exact⟨_,_,_,c124,rfl⟩
 ·cases h;exact⟨_,_,_,c125,rfl⟩
 ·cases h;exact⟨_,_,_,c126,rfl⟩
 ·cases h;exact⟨_,_,_,c127,rfl⟩
 ·cases h;exact⟨_,_,_,c128,rfl⟩
 ·cases h;exact⟨_,_,_,c129,rfl⟩
 ·cases h;exact⟨_,_,_,c130,rfl⟩
 ·cases h;exact⟨_,_,_,c131,rfl⟩
 ·cases h;exact⟨_,_,_,c132,rfl⟩
 ·cases h;exact⟨_,_,_,c133,rfl⟩
 ·cases h;exact⟨_,_,_,c134,rfl⟩
 ·cases h;exact⟨_,_,_,c135,rfl⟩
 ·cases h;exact⟨_,_,_,c136,rfl⟩
 ·cases h;exact⟨_,_,_,c137,rfl⟩
 ·cases h;exact⟨_,_,_,c138,rfl⟩
 ·cases h;exact⟨_,_,_,c139,rfl⟩
 ·cases h;exact⟨_,_,_,c140,rfl⟩
 ·cases h;exact⟨_,_,_,c141,rfl⟩
 ·cases h;exact⟨_,_,_,c142,rfl⟩
 ·cases h;exact⟨_,_,_,c143,rfl⟩
 ·cases h;exact⟨_,_,_,c144,rfl⟩
 ·cases h;exact⟨_,_,_,c155,rfl⟩
 ·cases h;exact⟨_,_,_,c156,rfl⟩
 ·cases h;exact⟨_,_,_,c157,rfl⟩
 ·cases h;exact⟨_,_,_,c158,rfl⟩
 ·cases h;exact⟨_,_,_,c159,rfl⟩
 ·cases h;exact⟨_,_,_,c160,rfl⟩
 ·cases h;exact⟨_,_,_,c161,rfl⟩
 ·cases h;exact⟨_,_,_,c162,rfl⟩
 ·cases h;exact⟨_,_,_,c163,rfl⟩
 ·cases h;exact⟨_,_,_,c166,rfl⟩
 ·cases h;exact⟨_,_,_,c167,rfl⟩
 ·cases h;exact⟨_,_,_,c168,rfl⟩
 ·cases h;exact⟨_,_,_,c169,rfl⟩
 ·cases h;exact⟨_,_,_,c170,rfl⟩
 ·cases h;exact⟨_,_,_,c171,rfl⟩
 ·cases h;exact⟨_,_,_,c172,rfl⟩
 ·cases h;exact⟨_,_,_,c173,rfl⟩
 ·cases h;exact⟨_,_,_,c174,rfl⟩
 ·cases h;exact⟨_,_,_,c175,rfl⟩
 ·cases h;exact⟨_,_,_,c176,rfl⟩
 ·cases h;exact⟨_,_,_,c177,rfl⟩
 ·cases h;exact⟨_,_,_,c178,rfl⟩
 ·cases h;exact⟨_,_,_,c201,rfl⟩
 ·cases h;exact⟨_,_,_,c202,rfl⟩
 ·cases h;exact⟨_,_,_,c203,rfl⟩
 ·cases h;exact⟨_,_,_,c204,rfl⟩
 ·cases h;exact⟨_,_,_,c205,rfl⟩
 ·cases h;exact⟨_,_,_,c206,rfl⟩
 ·cases h;exact⟨_,_,_,c207,rfl⟩
 ·cases h;exact⟨_,_,_,c208,rfl⟩
 ·cases h;exact⟨_,_,_,c209,rfl⟩
 ·cases h;exact⟨_,_,_,c210,rfl⟩
 ·cases h;exact⟨_,_,_,c211,rfl⟩
 ·cases h;exact⟨_,_,_,c212,rfl⟩
 ·cases h;exact⟨_,_,_,c213,rfl⟩
 ·cases h;exact⟨_,_,_,c214,rfl⟩
 ·cases h;exact⟨_,_,_,c222,rfl⟩
 ·cases h;exact⟨_,_,_,c223,rfl⟩
 ·cases h;exact⟨_,_,_,c224,rfl⟩
 ·cases h;exact⟨_,_,_,c225,rfl⟩
 ·cases h;exact⟨_,_,_,c230,rfl⟩
 ·cases h;exact⟨_,_,_,c233,rfl⟩
 ·cases h;exact⟨_,_,_,c234,rfl⟩
 ·cases h;exact⟨_,_,_,c235,rfl⟩
 ·cases h;exact⟨_,_,_,c237,rfl⟩
 ·cases h;exact⟨_,_,_,c246,rfl⟩
 ·cases h;exact⟨_,_,_,c247,rfl⟩
 ·cases h;exact⟨_,_,_,c248,rfl⟩
 ·cases h;exact⟨_,_,_,c249,rfl⟩
 ·cases h;exact⟨_,_,_,c250,rfl⟩
 ·cases h;exact⟨_,_,_,c251,rfl⟩
 ·cases h;exact⟨_,_,_,c263,rfl⟩
 ·cases h;exact⟨_,_,_,c264,rfl⟩
 ·cases h
theorem lpE_ok:∀k lp,lpE k=some lp→∃an,cLoop Tryz.prog an k=some lp:=by
 intro k lp h;unfold lpE at h;split at h
 ·cases h;exact⟨_,cl138⟩
 ·cases h
theorem lawV_ok:zae7 Tryz.prog (fun f args os=>match insV f args os with
 |some r=>some r
 |none=>sortE 236 f args os):=by
 intro f args os v os' h;dsimp only at h;split at h
 ·rename_i r hr;cases h;exact insV_ok _ _ _ _ _ hr
 ·exact sortE_ok _ _ _ _ _ h
theorem tblE_ok (h5:EntOK Tryz.prog ⟨11,[],.dat (.bool true)⟩):TblOK Tryz.prog tblE:=
 ⟨fun f fn h=>tfE_ok f fn h,memoL_ok (fun e he=>by rcases List.mem_singleton.1 he with rfl;exact h5) lawV_ok,lpE_ok,fun f fn c st h1 h2 h3=>by simp only[Glob.lps,h1,h2,h3],by kernel_rfl⟩
end Go.Am.E

set_option maxRecDepth 10000
namespace Go.Am
open Go.Proofs
abbrev A (i:Nat) (l d:List Nat) (m:List (Nat×Mk)):RAnn:=⟨i,l,d,m⟩
abbrev A0 (i:Nat) (l:List Nat):RAnn:=⟨i,l,[],[]⟩
def getF {α:Type} [Inhabited α] (o:Option α):α:=o.getD default
theorem getF_eq {α:Type} [Inhabited α] {o:Option α} (h:o.isSome=true):o=some (getF o):=by
 cases o with
 |none=>cases h
 |some a=>rfl
noncomputable def mF (a:Ann) (k:Bool) (f:Nat):AFun:=getF (cFun Tryz.prog a k f)
noncomputable def S (a:Ann) (k:Bool) (f:Nat):Bool:=(cFun Tryz.prog a k f).isSome
theorem mS {a:Ann} {k:Bool} {f:Nat} (h:S a k f=true):cFun Tryz.prog a k f=some (mF a k f):=getF_eq h
def a11:Ann:=[A0 0 [],A0 1 [],A 2 [1] [] [(4,⟨.d,[0]⟩)],A0 3 [1,2,3],A0 4 [],A 5 [1,2] [] [(3,⟨.d,[0]⟩)],A 6 [1,2,4,5,6] [] [(3,⟨.d,[0]⟩)],A0 7 [1,4,5,6,9],A0 8 [],A0 9 [1,4]]
theorem o11:S a11 false 11=true:=by kernel_rfl
def a12:Ann:=[A0 0 [0,1],A0 1 [0,1],A0 2 [],A0 3 [0,1],A0 4 [0,1,5],A0 6 [0,1,5],A0 7 [],A0 5 [0,1,5],A0 8 []]
theorem o12:S a12 false 12=true:=by kernel_rfl
def a13:Ann:=[A0 0 [0,1,2],A0 1 [2,3,4],A0 2 [],A0 3 [2,3,4],A0 4 [3,4,7,8],A0 5 [],A0 6 [3,4,7]]
theorem o13:S a13 false 13=true:=by kernel_rfl
def a15:Ann:=[A0 0 [0,1],A0 1 [2,3],A0 2 [],A0 3 [2,3]]
theorem o15:S a15 false 15=true:=by kernel_rfl
def a33:Ann:=[A0 0 [],A0 1 [0],A0 2 [0,1],A 3 [0,1,2] [] [(2,⟨.o,[]⟩),(7,⟨.o,[]⟩),(10,⟨.o,[]⟩)]]
theorem o33:S a33 true 33=true:=by kernel_rfl
def a40:Ann:=[A0 0 [0,1],A 1 [2,3] [] [(0,⟨.o,[]⟩)],A0 2 [2,3,5],A 3 [2,3,5,9,10,11] [2,3,5,9] [],A0 4 [2,3,5,9,10,11],A0 5 [2,3,5,6,7,9,10,11],A 6 [2,3,5,7,9,10,11] [] [(4,⟨.o,[]⟩)],A0 7 [2,3,5,9,10,11],A0 8 [5]]
theorem o40:S a40 false 40=true:=by kernel_rfl
end Go.Am

set_option maxRecDepth 10000
set_option maxHeartbeats 4000000
namespace Go.Am
open Go.Proofs
noncomputable def tfY:FuncId→Option AFun
 |11=>some (mF a11 false 11)
 |12=>some (mF a12 false 12)
 |13=>some (mF a13 false 13)
 |15=>some (mF a15 false 15)
 |33=>some (mF a33 true 33)
 |40=>some (mF a40 false 40)
 |_=>none
noncomputable def tfX (f:FuncId):Option AFun:=match E.tfE f with
 |some fn=>some fn
 |none=>tfY f
noncomputable def tlX:Nat→Option ALoop
 |138=>some E.lp138
 |_=>none
theorem tfX_ok:∀f fn,tfX f=some fn→∃an keep g,cFun Tryz.prog an keep f=some g∧fn={ g with split:=fn.split }:=by
 intro f fn h;unfold tfX at h;split at h
 ·rename_i fn' h';cases h;exact E.tfE_ok _ _ h'
 unfold tfY at h;split at h
 ·cases h;exact⟨_,_,_,mS o11,rfl⟩
 ·cases h;exact⟨_,_,_,mS o12,rfl⟩
 ·cases h;exact⟨_,_,_,mS o13,rfl⟩
 ·cases h;exact⟨_,_,_,mS o15,rfl⟩
 ·cases h;exact⟨_,_,_,mS o33,rfl⟩
 ·cases h;exact⟨_,_,_,mS o40,rfl⟩
 ·cases h
theorem tlX_ok:∀k lp,tlX k=some lp→∃an,cLoop Tryz.prog an k=some lp:=by
 intro k lp h;unfold tlX at h;split at h
 ·cases h;exact⟨_,E.cl138⟩
 ·cases h
theorem tfX_y:tfX YID=none:=by kernel_rfl
end Go.Am
