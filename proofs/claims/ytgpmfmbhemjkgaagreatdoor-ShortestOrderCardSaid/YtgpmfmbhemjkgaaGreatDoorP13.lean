/- Parts of the proofs of the statement, joined and made short: XTb. -/
import Derived.Test.YtgpmfmbhemjkgaaGreatDoorP7
import Derived.Test.YtgpmfmbhemjkgaaGreatDoorP8
import Derived.Test.YtgpmfmbhemjkgaaGreatDoorP10
import Derived.Test.YtgpmfmbhemjkgaaGreatDoorP12
set_option linter.unusedVariables false
set_option linter.unusedSimpArgs false
set_option linter.unusedSectionVars false
set_option maxRecDepth 10000
set_option maxHeartbeats 4000000
namespace Go.Am.E
open Go.Proofs
theorem tfE_ok : ∀ f fn,tfE f = some fn → ∃ an keep g,cFun Tryz.prog an keep f = some g ∧ fn = { g with split:=fn.split }:=by
 intro f fn h
 unfold tfE at h
 split at h
 ·cases h; exact ⟨_,_,_,c3,rfl⟩
 ·cases h; exact ⟨_,_,_,c4,rfl⟩
 ·cases h; exact ⟨_,_,_,c6,rfl⟩
 ·cases h; exact ⟨_,_,_,c7,rfl⟩
 ·cases h; exact ⟨_,_,_,c8,rfl⟩
 ·cases h; exact ⟨_,_,_,c13,rfl⟩
 ·cases h; exact ⟨_,_,_,c14,rfl⟩
 ·cases h; exact ⟨_,_,_,c15,rfl⟩
 ·cases h; exact ⟨_,_,_,c16,rfl⟩
 ·cases h; exact ⟨_,_,_,c22,rfl⟩
 ·cases h; exact ⟨_,_,_,c24,rfl⟩
 ·cases h; exact ⟨_,_,_,c28,rfl⟩
 ·cases h; exact ⟨_,_,_,c29,rfl⟩
 ·cases h; exact ⟨_,_,_,c30,rfl⟩
 ·cases h; exact ⟨_,_,_,c31,rfl⟩
 ·cases h; exact ⟨_,_,_,c32,rfl⟩
 ·cases h; exact ⟨_,_,_,c33,rfl⟩
 ·cases h; exact ⟨_,_,_,c41,rfl⟩
 ·cases h; exact ⟨_,_,_,c45,rfl⟩
 ·cases h; exact ⟨_,_,_,c46,rfl⟩
 ·cases h; exact ⟨_,_,_,c51,rfl⟩
 ·cases h; exact ⟨_,_,_,c52,rfl⟩
 ·cases h; exact ⟨_,_,_,c53,rfl⟩
 ·cases h; exact ⟨_,_,_,c54,rfl⟩
 ·cases h; exact ⟨_,_,_,c55,rfl⟩
 ·cases h; exact ⟨_,_,_,c56,rfl⟩
 ·cases h; exact ⟨_,_,_,c57,rfl⟩
 ·cases h; exact ⟨_,_,_,c68,rfl⟩
 ·cases h; exact ⟨_,_,_,c69,rfl⟩
 ·cases h; exact ⟨_,_,_,c70,rfl⟩
 ·cases h; exact ⟨_,_,_,c75,rfl⟩
 ·cases h; exact ⟨_,_,_,c84,rfl⟩
 ·cases h; exact ⟨_,_,_,c85,rfl⟩
 ·cases h; exact ⟨_,_,_,c86,rfl⟩
 ·cases h; exact ⟨_,_,_,c87,rfl⟩
 ·cases h; exact ⟨_,_,_,c88,rfl⟩
 ·cases h; exact ⟨_,_,_,c89,rfl⟩
 ·cases h; exact ⟨_,_,_,c90,rfl⟩
 ·cases h; exact ⟨_,_,_,c91,rfl⟩
 ·cases h; exact ⟨_,_,_,c92,rfl⟩
 ·cases h; exact ⟨_,_,_,c93,rfl⟩
 ·cases h; exact ⟨_,_,_,c99,rfl⟩
 ·cases h; exact ⟨_,_,_,c100,rfl⟩
 ·cases h; exact ⟨_,_,_,c103,rfl⟩
 ·cases h; exact ⟨_,_,_,c104,rfl⟩
 ·cases h; exact ⟨_,_,_,c105,rfl⟩
 ·cases h; exact ⟨_,_,_,c106,rfl⟩
 ·cases h; exact ⟨_,_,_,c107,rfl⟩
 ·cases h; exact ⟨_,_,_,c108,rfl⟩
 ·cases h; exact ⟨_,_,_,c118,rfl⟩
 ·cases h; exact ⟨_,_,_,c119,rfl⟩
 ·cases h; exact ⟨_,_,_,c120,rfl⟩
 ·cases h; exact ⟨_,_,_,c121,rfl⟩
 ·cases h; exact ⟨_,_,_,c122,rfl⟩
 ·cases h; exact ⟨_,_,_,c123,rfl⟩
 ·cases h; exact ⟨_,_,_,c124,rfl⟩
 ·cases h; exact ⟨_,_,_,c125,rfl⟩
 ·cases h; exact ⟨_,_,_,c126,rfl⟩
 ·cases h; exact ⟨_,_,_,c127,rfl⟩
 ·cases h; exact ⟨_,_,_,c128,rfl⟩
 ·cases h; exact ⟨_,_,_,c129,rfl⟩
 ·cases h; exact ⟨_,_,_,c130,rfl⟩
 ·cases h; exact ⟨_,_,_,c131,rfl⟩
 ·cases h; exact ⟨_,_,_,c132,rfl⟩
 ·cases h; exact ⟨_,_,_,c133,rfl⟩
 ·cases h; exact ⟨_,_,_,c134,rfl⟩
 ·cases h; exact ⟨_,_,_,c135,rfl⟩
 ·cases h; exact ⟨_,_,_,c136,rfl⟩
 ·cases h; exact ⟨_,_,_,c137,rfl⟩
 ·cases h; exact ⟨_,_,_,c138,rfl⟩
 ·cases h; exact ⟨_,_,_,c139,rfl⟩
 ·cases h; exact ⟨_,_,_,c140,rfl⟩
 ·cases h; exact ⟨_,_,_,c141,rfl⟩
 ·cases h; exact ⟨_,_,_,c164,rfl⟩
 ·cases h; exact ⟨_,_,_,c165,rfl⟩
 ·cases h; exact ⟨_,_,_,c166,rfl⟩
 ·cases h; exact ⟨_,_,_,c167,rfl⟩
 ·cases h; exact ⟨_,_,_,c168,rfl⟩
 ·cases h; exact ⟨_,_,_,c169,rfl⟩
 ·cases h; exact ⟨_,_,_,c170,rfl⟩
 ·cases h; exact ⟨_,_,_,c171,rfl⟩
 ·cases h; exact ⟨_,_,_,c172,rfl⟩
 ·cases h; exact ⟨_,_,_,c173,rfl⟩
 ·cases h; exact ⟨_,_,_,c179,rfl⟩
 ·cases h; exact ⟨_,_,_,c180,rfl⟩
 ·cases h; exact ⟨_,_,_,c181,rfl⟩
 ·cases h; exact ⟨_,_,_,c182,rfl⟩
 ·cases h; exact ⟨_,_,_,c183,rfl⟩
 ·cases h; exact ⟨_,_,_,c184,rfl⟩
 ·cases h; exact ⟨_,_,_,c185,rfl⟩
 ·cases h; exact ⟨_,_,_,c186,rfl⟩
 ·cases h; exact ⟨_,_,_,c187,rfl⟩
 ·cases h; exact ⟨_,_,_,c188,rfl⟩
 ·cases h; exact ⟨_,_,_,c189,rfl⟩
 ·cases h; exact ⟨_,_,_,c190,rfl⟩
 ·cases h; exact ⟨_,_,_,c191,rfl⟩
 ·cases h; exact ⟨_,_,_,c192,rfl⟩
 ·cases h; exact ⟨_,_,_,c193,rfl⟩
 ·cases h; exact ⟨_,_,_,c194,rfl⟩
 ·cases h; exact ⟨_,_,_,c195,rfl⟩
 ·cases h; exact ⟨_,_,_,c196,rfl⟩
 ·cases h; exact ⟨_,_,_,c197,rfl⟩
 ·cases h; exact ⟨_,_,_,c198,rfl⟩
 ·cases h; exact ⟨_,_,_,c199,rfl⟩
 ·cases h; exact ⟨_,_,_,c200,rfl⟩
 ·cases h; exact ⟨_,_,_,c201,rfl⟩
 ·cases h; exact ⟨_,_,_,c202,rfl⟩
 ·cases h; exact ⟨_,_,_,c203,rfl⟩
 ·cases h; exact ⟨_,_,_,c204,rfl⟩
 ·cases h; exact ⟨_,_,_,c205,rfl⟩
 ·cases h; exact ⟨_,_,_,c206,rfl⟩
 ·cases h; exact ⟨_,_,_,c207,rfl⟩
 ·cases h; exact ⟨_,_,_,c208,rfl⟩
 ·cases h; exact ⟨_,_,_,c209,rfl⟩
 ·cases h; exact ⟨_,_,_,c210,rfl⟩
 ·cases h; exact ⟨_,_,_,c211,rfl⟩
 ·cases h; exact ⟨_,_,_,c212,rfl⟩
 ·cases h; exact ⟨_,_,_,c213,rfl⟩
 ·cases h; exact ⟨_,_,_,c214,rfl⟩
 ·cases h; exact ⟨_,_,_,c215,rfl⟩
 ·cases h; exact ⟨_,_,_,c229,rfl⟩
 ·cases h; exact ⟨_,_,_,c230,rfl⟩
 ·cases h; exact ⟨_,_,_,c231,rfl⟩
 ·cases h; exact ⟨_,_,_,c232,rfl⟩
 ·cases h; exact ⟨_,_,_,c233,rfl⟩
 ·cases h; exact ⟨_,_,_,c234,rfl⟩
 ·cases h; exact ⟨_,_,_,c236,rfl⟩
 ·cases h; exact ⟨_,_,_,c237,rfl⟩
 ·cases h; exact ⟨_,_,_,c238,rfl⟩
 ·cases h; exact ⟨_,_,_,c239,rfl⟩
 ·cases h; exact ⟨_,_,_,c240,rfl⟩
 ·cases h; exact ⟨_,_,_,c241,rfl⟩
 ·cases h; exact ⟨_,_,_,c242,rfl⟩
 ·cases h; exact ⟨_,_,_,c243,rfl⟩
 ·cases h; exact ⟨_,_,_,c244,rfl⟩
 ·cases h; exact ⟨_,_,_,c245,rfl⟩
 ·cases h; exact ⟨_,_,_,c246,rfl⟩
 ·cases h; exact ⟨_,_,_,c247,rfl⟩
 ·cases h; exact ⟨_,_,_,c248,rfl⟩
 ·cases h; exact ⟨_,_,_,c249,rfl⟩
 ·cases h; exact ⟨_,_,_,c266,rfl⟩
 ·cases h; exact ⟨_,_,_,c267,rfl⟩
 ·cases h; exact ⟨_,_,_,c268,rfl⟩
 ·cases h
theorem lpE_ok : ∀ k lp,lpE k = some lp → ∃ an,cLoop Tryz.prog an k = some lp:=by
 intro k lp h
 unfold lpE at h
 split at h
 ·cases h; exact ⟨_,cl45⟩
 ·cases h; exact ⟨_,cl89⟩
 ·cases h
theorem tblE_ok (h5 : EntOK Tryz.prog ⟨5,[],.dat (.bool true)⟩) : TblOK Tryz.prog tblE :=
 ⟨fun f fn h => tfE_ok f fn h,memoL_ok (fun e he => by rcases List.mem_singleton.1 he with rfl; exact h5) sortE_ok,lpE_ok,fun f fn c st h1 h2 h3 => by simp only [Glob.lps,h1,h2,h3],by kernel_rfl⟩
end Go.Am.E
