/- Parts of the proofs of the statement, joined and made short: RgTb. -/
import Derived.Test.YtgaeajfoiigbkaaGreatDoorP3
import Derived.Test.YtgaeajfoiigbkaaGreatDoorP9
import Derived.Test.YtgaeajfoiigbkaaGreatDoorP21
set_option linter.unusedVariables false
set_option linter.unusedSimpArgs false
set_option linter.unusedSectionVars false
set_option maxRecDepth 10000
set_option maxHeartbeats 4000000
namespace Go.Am.E
open Go.Proofs
theorem tfE_ok : ∀ f fn,tfE f = some fn → ∃ an keep g,cFun Tryz.prog an keep f = some g ∧ fn = { g with split:=fn.split }:=by
 intro f fn h
 unfold tfE at h
 split at h
 ·cases h; exact ⟨_,_,_,c4,rfl⟩
 ·cases h; exact ⟨_,_,_,c14,rfl⟩
 ·cases h; exact ⟨_,_,_,c16,rfl⟩
 ·cases h; exact ⟨_,_,_,c17,rfl⟩
 ·cases h; exact ⟨_,_,_,c18,rfl⟩
 ·cases h; exact ⟨_,_,_,c34,rfl⟩
 ·cases h; exact ⟨_,_,_,c35,rfl⟩
 ·cases h; exact ⟨_,_,_,c36,rfl⟩
 ·cases h; exact ⟨_,_,_,c37,rfl⟩
 ·cases h; exact ⟨_,_,_,c38,rfl⟩
 ·cases h; exact ⟨_,_,_,c39,rfl⟩
 ·cases h; exact ⟨_,_,_,c53,rfl⟩
 ·cases h; exact ⟨_,_,_,c54,rfl⟩
 ·cases h; exact ⟨_,_,_,c55,rfl⟩
 ·cases h; exact ⟨_,_,_,c56,rfl⟩
 ·cases h; exact ⟨_,_,_,c57,rfl⟩
 ·cases h; exact ⟨_,_,_,c58,rfl⟩
 ·cases h; exact ⟨_,_,_,c59,rfl⟩
 ·cases h; exact ⟨_,_,_,c60,rfl⟩
 ·cases h; exact ⟨_,_,_,c61,rfl⟩
 ·cases h; exact ⟨_,_,_,c62,rfl⟩
 ·cases h; exact ⟨_,_,_,c63,rfl⟩
 ·cases h; exact ⟨_,_,_,c64,rfl⟩
 ·cases h; exact ⟨_,_,_,c65,rfl⟩
 ·cases h; exact ⟨_,_,_,c66,rfl⟩
 ·cases h; exact ⟨_,_,_,c67,rfl⟩
 ·cases h; exact ⟨_,_,_,c68,rfl⟩
 ·cases h; exact ⟨_,_,_,c69,rfl⟩
 ·cases h; exact ⟨_,_,_,c72,rfl⟩
 ·cases h; exact ⟨_,_,_,c77,rfl⟩
 ·cases h; exact ⟨_,_,_,c78,rfl⟩
 ·cases h; exact ⟨_,_,_,c103,rfl⟩
 ·cases h; exact ⟨_,_,_,c104,rfl⟩
 ·cases h; exact ⟨_,_,_,c105,rfl⟩
 ·cases h; exact ⟨_,_,_,c106,rfl⟩
 ·cases h; exact ⟨_,_,_,c107,rfl⟩
 ·cases h; exact ⟨_,_,_,c108,rfl⟩
 ·cases h; exact ⟨_,_,_,c109,rfl⟩
 ·cases h; exact ⟨_,_,_,c110,rfl⟩
 ·cases h; exact ⟨_,_,_,c111,rfl⟩
 ·cases h; exact ⟨_,_,_,c112,rfl⟩
 ·cases h; exact ⟨_,_,_,c113,rfl⟩
 ·cases h; exact ⟨_,_,_,c114,rfl⟩
 ·cases h; exact ⟨_,_,_,c115,rfl⟩
 ·cases h; exact ⟨_,_,_,c116,rfl⟩
 ·cases h; exact ⟨_,_,_,c117,rfl⟩
 ·cases h; exact ⟨_,_,_,c119,rfl⟩
 ·cases h; exact ⟨_,_,_,c120,rfl⟩
 ·cases h; exact ⟨_,_,_,c121,rfl⟩
 ·cases h; exact ⟨_,_,_,c122,rfl⟩
 ·cases h; exact ⟨_,_,_,c123,rfl⟩
 ·cases h; exact ⟨_,_,_,c124,rfl⟩
 ·cases h; exact ⟨_,_,_,c125,rfl⟩
 ·cases h; exact ⟨_,_,_,c126,rfl⟩
 ·cases h; exact ⟨_,_,_,c127,rfl⟩
 ·cases h; exact ⟨_,_,_,c128,rfl⟩
 ·cases h; exact ⟨_,_,_,c147,rfl⟩
 ·cases h; exact ⟨_,_,_,c148,rfl⟩
 ·cases h; exact ⟨_,_,_,c149,rfl⟩
 ·cases h; exact ⟨_,_,_,c150,rfl⟩
 ·cases h; exact ⟨_,_,_,c151,rfl⟩
 ·cases h; exact ⟨_,_,_,c152,rfl⟩
 ·cases h; exact ⟨_,_,_,c153,rfl⟩
 ·cases h; exact ⟨_,_,_,c154,rfl⟩
 ·cases h; exact ⟨_,_,_,c155,rfl⟩
 ·cases h; exact ⟨_,_,_,c156,rfl⟩
 ·cases h; exact ⟨_,_,_,c157,rfl⟩
 ·cases h; exact ⟨_,_,_,c158,rfl⟩
 ·cases h; exact ⟨_,_,_,c159,rfl⟩
 ·cases h; exact ⟨_,_,_,c178,rfl⟩
 ·cases h; exact ⟨_,_,_,c179,rfl⟩
 ·cases h; exact ⟨_,_,_,c180,rfl⟩
 ·cases h; exact ⟨_,_,_,c181,rfl⟩
 ·cases h; exact ⟨_,_,_,c182,rfl⟩
 ·cases h; exact ⟨_,_,_,c183,rfl⟩
 ·cases h; exact ⟨_,_,_,c184,rfl⟩
 ·cases h; exact ⟨_,_,_,c185,rfl⟩
 ·cases h; exact ⟨_,_,_,c186,rfl⟩
 ·cases h; exact ⟨_,_,_,c235,rfl⟩
 ·cases h; exact ⟨_,_,_,c236,rfl⟩
 ·cases h
theorem lpE_ok : ∀ k lp,lpE k = some lp → ∃ an,cLoop Tryz.prog an k = some lp:=by
 intro k lp h
 unfold lpE at h
 split at h
 ·cases h; exact ⟨_,cl57⟩
 ·cases h; exact ⟨_,cl60⟩
 ·cases h
theorem noLaw : zbe7 Tryz.prog (fun _ _ _ => none):=by
 intro f args os v os' h
 cases h
theorem tblE_ok (h15 : EntOK Tryz.prog ⟨15,[],.dat (.bool true)⟩) : TblOK Tryz.prog tblE :=
 ⟨fun f fn h => tfE_ok f fn h,memoL_ok (fun e he => by rcases List.mem_singleton.1 he with rfl; exact h15) noLaw,lpE_ok,fun f fn c st h1 h2 h3 => by simp only [Glob.lps,h1,h2,h3],by kernel_rfl⟩
end Go.Am.E
