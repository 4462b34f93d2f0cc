import Derived.Test.YtpmlioigoiipaaaJCode
import Derived.Test.YtpmlioigoiipaaaAmEval
import Derived.Test.YtpmlioigoiipaaaAmTop
import Derived.Test.YtpmlioigoiipaaaAmWalk
namespace Go.Am
open Go.Proofs
def tblJ : FuncId → Option AFun
  | 3 => some fn3
  | 4 => some fn4
  | 5 => some fn5
  | 6 => some fn6
  | 7 => some fn7
  | 8 => some fn8
  | 9 => some fn9
  | 10 => some fn10
  | 11 => some fn11
  | 12 => some fn12
  | 13 => some fn13
  | 14 => some fn14
  | 15 => some fn15
  | 16 => some fn16
  | 17 => some fn17
  | 18 => some fn18
  | 19 => some fn19
  | 20 => some fn20
  | 21 => some fn21
  | 22 => some fn22
  | 23 => some fn23
  | 24 => some fn24
  | 25 => some fn25
  | 26 => some fn26
  | 27 => some fn27
  | 28 => some fn28
  | 29 => some fn29
  | 30 => some fn30
  | 31 => some fn31
  | 32 => some fn32
  | 33 => some fn33
  | 34 => some fn34
  | 35 => some fn35
  | 36 => some fn36
  | 37 => some fn37
  | 38 => some {fn38 with split := some 0}
  | 39 => some fn39
  | 40 => some fn40
  | 41 => some fn41
  | 42 => some fn42
  | 43 => some fn43
  | 44 => some fn44
  | 45 => some fn45
  | 46 => some fn46
  | 47 => some fn47
  | 48 => some fn48
  | 49 => some fn49
  | 50 => some fn50
  | 51 => some fn51
  | 52 => some fn52
  | 53 => some fn53
  | 54 => some fn54
  | 55 => some fn55
  | 56 => some fn56
  | 57 => some fn57
  | 58 => some fn58
  | 59 => some fn59
  | 60 => some fn60
  | _ => none

theorem tblJ_ok : TblOK Try.prog tblJ := by
  intro f fn h
  unfold tblJ at h
  split at h
  · cases h; exact ⟨ann3, false, fn3, c3, rfl⟩
  · cases h; exact ⟨ann4, false, fn4, c4, rfl⟩
  · cases h; exact ⟨ann5, false, fn5, c5, rfl⟩
  · cases h; exact ⟨ann6, false, fn6, c6, rfl⟩
  · cases h; exact ⟨ann7, false, fn7, c7, rfl⟩
  · cases h; exact ⟨ann8, false, fn8, c8, rfl⟩
  · cases h; exact ⟨ann9, false, fn9, c9, rfl⟩
  · cases h; exact ⟨ann10, false, fn10, c10, rfl⟩
  · cases h; exact ⟨ann11, false, fn11, c11, rfl⟩
  · cases h; exact ⟨ann12, false, fn12, c12, rfl⟩
  · cases h; exact ⟨ann13, false, fn13, c13, rfl⟩
  · cases h; exact ⟨ann14, false, fn14, c14, rfl⟩
  · cases h; exact ⟨ann15, false, fn15, c15, rfl⟩
  · cases h; exact ⟨ann16, false, fn16, c16, rfl⟩
  · cases h; exact ⟨ann17, false, fn17, c17, rfl⟩
  · cases h; exact ⟨ann18, false, fn18, c18, rfl⟩
  · cases h; exact ⟨ann19, false, fn19, c19, rfl⟩
  · cases h; exact ⟨ann20, false, fn20, c20, rfl⟩
  · cases h; exact ⟨ann21, false, fn21, c21, rfl⟩
  · cases h; exact ⟨ann22, false, fn22, c22, rfl⟩
  · cases h; exact ⟨ann23, false, fn23, c23, rfl⟩
  · cases h; exact ⟨ann24, false, fn24, c24, rfl⟩
  · cases h; exact ⟨ann25, false, fn25, c25, rfl⟩
  · cases h; exact ⟨ann26, false, fn26, c26, rfl⟩
  · cases h; exact ⟨ann27, false, fn27, c27, rfl⟩
  · cases h; exact ⟨ann28, false, fn28, c28, rfl⟩
  · cases h; exact ⟨ann29, false, fn29, c29, rfl⟩
  · cases h; exact ⟨ann30, false, fn30, c30, rfl⟩
  · cases h; exact ⟨ann31, false, fn31, c31, rfl⟩
  · cases h; exact ⟨ann32, false, fn32, c32, rfl⟩
  · cases h; exact ⟨ann33, false, fn33, c33, rfl⟩
  · cases h; exact ⟨ann34, false, fn34, c34, rfl⟩
  · cases h; exact ⟨ann35, false, fn35, c35, rfl⟩
  · cases h; exact ⟨ann36, false, fn36, c36, rfl⟩
  · cases h; exact ⟨ann37, false, fn37, c37, rfl⟩
  · cases h; exact ⟨ann38, false, fn38, c38, rfl⟩
  · cases h; exact ⟨ann39, false, fn39, c39, rfl⟩
  · cases h; exact ⟨ann40, false, fn40, c40, rfl⟩
  · cases h; exact ⟨ann41, false, fn41, c41, rfl⟩
  · cases h; exact ⟨ann42, false, fn42, c42, rfl⟩
  · cases h; exact ⟨ann43, false, fn43, c43, rfl⟩
  · cases h; exact ⟨ann44, false, fn44, c44, rfl⟩
  · cases h; exact ⟨ann45, false, fn45, c45, rfl⟩
  · cases h; exact ⟨ann46, false, fn46, c46, rfl⟩
  · cases h; exact ⟨ann47, false, fn47, c47, rfl⟩
  · cases h; exact ⟨ann48, false, fn48, c48, rfl⟩
  · cases h; exact ⟨ann49, false, fn49, c49, rfl⟩
  · cases h; exact ⟨ann50, false, fn50, c50, rfl⟩
  · cases h; exact ⟨ann51, false, fn51, c51, rfl⟩
  · cases h; exact ⟨ann52, false, fn52, c52, rfl⟩
  · cases h; exact ⟨ann53, false, fn53, c53, rfl⟩
  · cases h; exact ⟨ann54, false, fn54, c54, rfl⟩
  · cases h; exact ⟨ann55, false, fn55, c55, rfl⟩
  · cases h; exact ⟨ann56, false, fn56, c56, rfl⟩
  · cases h; exact ⟨ann57, false, fn57, c57, rfl⟩
  · cases h; exact ⟨ann58, false, fn58, c58, rfl⟩
  · cases h; exact ⟨ann59, false, fn59, c59, rfl⟩
  · cases h; exact ⟨ann60, false, fn60, c60, rfl⟩
  · cases h

end Go.Am
