/- Parts of the proofs of the statement, joined and made short: YTbl. -/
import Derived.Test.YtgpmfmbhemjkgaaGreatDoorP13
import Derived.Test.YtgpmfmbhemjkgaaGreatDoorP14
import Derived.Test.YtgpmfmbhemjkgaaGreatDoorP15
set_option linter.unusedVariables false
set_option linter.unusedSimpArgs false
set_option linter.unusedSectionVars false
set_option maxRecDepth 10000
set_option maxHeartbeats 4000000
namespace Go.Am
open Go.Proofs
noncomputable def tfY : FuncId → Option AFun
 | 5 => some (mF a5 false 5)
 | 9 => some (mF a9 false 9)
 | 10 => some (mF a10 false 10)
 | 11 => some (mF a11 false 11)
 | 12 => some (mF a12 false 12)
 | 17 => some (mF a17 false 17)
 | 18 => some (mF a18 false 18)
 | 19 => some (mF a19 true 19)
 | 20 => some (mF a20 false 20)
 | 21 => some (mF a21 false 21)
 | 23 => some (mF a23 false 23)
 | 25 => some (mF a25 false 25)
 | 34 => some (mF a34 true 34)
 | 35 => some (mF a35 false 35)
 | 36 => some (mF a36 false 36)
 | 38 => some (mF a38 false 38)
 | 39 => some (mF a39 false 39)
 | 40 => some (mF a40 false 40)
 | 43 => some (mF a43 false 43)
 | 58 => some (mF a58 false 58)
 | 59 => some (mF a59 false 59)
 | 60 => some (mF a60 false 60)
 | 62 => some (mF a62 false 62)
 | 63 => some (mF a63 false 63)
 | 64 => some (mF a64 false 64)
 | 65 => some (mF a65 false 65)
 | 66 => some (mF a66 false 66)
 | 67 => some (mF a67 false 67)
 | 82 => some (mF a82 false 82)
 | 83 => some (mF a83 false 83)
 | 94 => some (mF a94 false 94)
 | 95 => some (mF a95 true 95)
 | 96 => some (mF a96 false 96)
 | 101 => some (mF a101 false 101)
 | 102 => some (mF a102 false 102)
 | 115 => some (mF a115 false 115)
 | 116 => some (mF a116 false 116)
 | 117 => some (mF a117 false 117)
 | 142 => some { mF a142 true 142 with split:=some 0 }
 | 143 => some (mF a143 false 143)
 | 144 => some (mF a144 true 144)
 | 145 => some (mF a145 false 145)
 | 146 => some (mF a146 true 146)
 | 147 => some (mF a147 true 147)
 | 148 => some (mF a148 false 148)
 | 149 => some (mF a149 false 149)
 | 150 => some (mF a150 false 150)
 | 151 => some (mF a151 true 151)
 | 158 => some (mF a158 false 158)
 | 163 => some (mF a163 false 163)
 | 174 => some (mF a174 false 174)
 | 178 => some (mF a178 false 178)
 | 219 => some (mF a219 true 219)
 | 220 => some (mF a220 false 220)
 | 221 => some (mF a221 false 221)
 | 222 => some (mF a222 false 222)
 | 223 => some (mF a223 true 223)
 | 235 => some (mF a235 false 235)
 | 251 => some (mF a251 false 251)
 | 253 => some (mF a253 false 253)
 | 254 => some (mF a254 false 254)
 | 255 => some (mF a255 false 255)
 | 256 => some (mF a256 false 256)
 | 257 => some (mF a257 false 257)
 | 258 => some (mF a258 false 258)
 | 259 => some (mF a259 false 259)
 | 260 => some (mF a260 true 260)
 | 261 => some (mF a261 false 261)
 | 262 => some (mF a262 false 262)
 | 263 => some (mF a263 false 263)
 | 264 => some (mF a264 false 264)
 | 270 => some (mF a270 false 270)
 | 273 => some (mF a273 false 273)
 | 274 => some (mF a274 false 274)
 | 275 => some (mF a275 false 275)
 | 276 => some (mF a276 false 276)
 | 277 => some (mF a277 true 277)
 | 279 => some (mF a279 false 279)
 | 282 => some (mF a282 true 282)
 | 285 => some (mF a285 false 285)
 | _ => none
noncomputable def tfX (f : FuncId) : Option AFun:=match E.tfE f with
 | some fn => some fn
 | none => tfY f
noncomputable def tlX : Nat → Option ALoop
 | 45 => some E.lp45
 | 89 => some E.lp89
 | 82 => some (mL a82 82)
 | 220 => some (mL a220 220)
 | _ => none
noncomputable def lawB : Orc:=fun f args os => match sortE 61 f args os with
 | some r => some r
 | none => keyLaw f args os
theorem lawB_ok : zpd7 Tryz.prog lawB:=by
 intro f args os v os' h
 unfold lawB at h
 split at h
 ·rename_i r hr
  cases h
  exact sortE_ok _ _ _ _ _ hr
 ·exact keyLaw_ok _ _ _ _ _ h
theorem zxd7 : ∀ f fn,tfX f = some fn → ∃ an keep g,cFun Tryz.prog an keep f = some g ∧ fn = { g with split:=fn.split }:=by
 intro f fn h
 unfold tfX at h
 split at h
 ·rename_i fn' h'
  cases h
  exact E.tfE_ok _ _ h'
 unfold tfY at h
 split at h
 ·cases h; exact ⟨_,_,_,mS o5,rfl⟩
 ·cases h; exact ⟨_,_,_,mS o9,rfl⟩
 ·cases h; exact ⟨_,_,_,mS o10,rfl⟩
 ·cases h; exact ⟨_,_,_,mS o11,rfl⟩
 ·cases h; exact ⟨_,_,_,mS o12,rfl⟩
 ·cases h; exact ⟨_,_,_,mS o17,rfl⟩
 ·cases h; exact ⟨_,_,_,mS o18,rfl⟩
 ·cases h; exact ⟨_,_,_,mS o19,rfl⟩
 ·cases h; exact ⟨_,_,_,mS o20,rfl⟩
 ·cases h; exact ⟨_,_,_,mS o21,rfl⟩
 ·cases h; exact ⟨_,_,_,mS o23,rfl⟩
 ·cases h; exact ⟨_,_,_,mS o25,rfl⟩
 ·cases h; exact ⟨_,_,_,mS o34,rfl⟩
 ·cases h; exact ⟨_,_,_,mS o35,rfl⟩
 ·cases h; exact ⟨_,_,_,mS o36,rfl⟩
 ·cases h; exact ⟨_,_,_,mS o38,rfl⟩
 ·cases h; exact ⟨_,_,_,mS o39,rfl⟩
 ·cases h; exact ⟨_,_,_,mS o40,rfl⟩
 ·cases h; exact ⟨_,_,_,mS o43,rfl⟩
 ·cases h; exact ⟨_,_,_,mS o58,rfl⟩
 ·cases h; exact ⟨_,_,_,mS o59,rfl⟩
 ·cases h; exact ⟨_,_,_,mS o60,rfl⟩
 ·cases h; exact ⟨_,_,_,mS o62,rfl⟩
 ·cases h; exact ⟨_,_,_,mS o63,rfl⟩
 ·cases h; exact ⟨_,_,_,mS o64,rfl⟩
 ·cases h; exact ⟨_,_,_,mS o65,rfl⟩
 ·cases h; exact ⟨_,_,_,mS o66,rfl⟩
 ·cases h; exact ⟨_,_,_,mS o67,rfl⟩
 ·cases h; exact ⟨_,_,_,mS o82,rfl⟩
 ·cases h; exact ⟨_,_,_,mS o83,rfl⟩
 ·cases h; exact ⟨_,_,_,mS o94,rfl⟩
 ·cases h; exact ⟨_,_,_,mS o95,rfl⟩
 ·cases h; exact ⟨_,_,_,mS o96,rfl⟩
 ·cases h; exact ⟨_,_,_,mS o101,rfl⟩
 ·cases h; exact ⟨_,_,_,mS o102,rfl⟩
 ·cases h; exact ⟨_,_,_,mS o115,rfl⟩
 ·cases h; exact ⟨_,_,_,mS o116,rfl⟩
 ·cases h; exact ⟨_,_,_,mS o117,rfl⟩
 ·cases h; exact ⟨_,_,_,mS o142,rfl⟩
 ·cases h; exact ⟨_,_,_,mS o143,rfl⟩
 ·cases h; exact ⟨_,_,_,mS o144,rfl⟩
 ·cases h; exact ⟨_,_,_,mS o145,rfl⟩
 ·cases h; exact ⟨_,_,_,mS o146,rfl⟩
 ·cases h; exact ⟨_,_,_,mS o147,rfl⟩
 ·cases h; exact ⟨_,_,_,mS o148,rfl⟩
 ·cases h; exact ⟨_,_,_,mS o149,rfl⟩
 ·cases h; exact ⟨_,_,_,mS o150,rfl⟩
 ·cases h; exact ⟨_,_,_,mS o151,rfl⟩
 ·cases h; exact ⟨_,_,_,mS o158,rfl⟩
 ·cases h; exact ⟨_,_,_,mS o163,rfl⟩
 ·cases h; exact ⟨_,_,_,mS o174,rfl⟩
 ·cases h; exact ⟨_,_,_,mS o178,rfl⟩
 ·cases h; exact ⟨_,_,_,mS o219,rfl⟩
 ·cases h; exact ⟨_,_,_,mS o220,rfl⟩
 ·cases h; exact ⟨_,_,_,mS o221,rfl⟩
 ·cases h; exact ⟨_,_,_,mS o222,rfl⟩
 ·cases h; exact ⟨_,_,_,mS o223,rfl⟩
 ·cases h; exact ⟨_,_,_,mS o235,rfl⟩
 ·cases h; exact ⟨_,_,_,mS o251,rfl⟩
 ·cases h; exact ⟨_,_,_,mS o253,rfl⟩
 ·cases h; exact ⟨_,_,_,mS o254,rfl⟩
 ·cases h; exact ⟨_,_,_,mS o255,rfl⟩
 ·cases h; exact ⟨_,_,_,mS o256,rfl⟩
 ·cases h; exact ⟨_,_,_,mS o257,rfl⟩
 ·cases h; exact ⟨_,_,_,mS o258,rfl⟩
 ·cases h; exact ⟨_,_,_,mS o259,rfl⟩
 ·cases h; exact ⟨_,_,_,mS o260,rfl⟩
 ·cases h; exact ⟨_,_,_,mS o261,rfl⟩
 ·cases h; exact ⟨_,_,_,mS o262,rfl⟩
 ·cases h; exact ⟨_,_,_,mS o263,rfl⟩
 ·cases h; exact ⟨_,_,_,mS o264,rfl⟩
 ·cases h; exact ⟨_,_,_,mS o270,rfl⟩
 ·cases h; exact ⟨_,_,_,mS o273,rfl⟩
 ·cases h; exact ⟨_,_,_,mS o274,rfl⟩
 ·cases h; exact ⟨_,_,_,mS o275,rfl⟩
 ·cases h; exact ⟨_,_,_,mS o276,rfl⟩
 ·cases h; exact ⟨_,_,_,mS o277,rfl⟩
 ·cases h; exact ⟨_,_,_,mS o279,rfl⟩
 ·cases h; exact ⟨_,_,_,mS o282,rfl⟩
 ·cases h; exact ⟨_,_,_,mS o285,rfl⟩
 ·cases h
theorem tlX_ok : ∀ k lp,tlX k = some lp → ∃ an,cLoop Tryz.prog an k = some lp:=by
 intro k lp h
 unfold tlX at h
 split at h
 ·cases h; exact ⟨_,E.cl45⟩
 ·cases h; exact ⟨_,E.cl89⟩
 ·cases h; exact ⟨_,mSL ol82⟩
 ·cases h; exact ⟨_,mSL ol220⟩
 ·cases h
theorem tfX_y : tfX YID = none:=by kernel_rfl
end Go.Am
