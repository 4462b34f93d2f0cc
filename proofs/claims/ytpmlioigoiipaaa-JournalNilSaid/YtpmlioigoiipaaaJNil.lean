import Derived.Test.YtpmlioigoiipaaaJTbl
set_option maxRecDepth 10000
namespace Go.Am
open Go.Proofs

noncomputable abbrev KJ : Orc := callT tblJ

def zDisk : Obj := .box [.nils, .nils, .dat (.int .i64 0), .dat (.int .i64 0), .dat (.bool false)]
def zJour : Obj := .box [.nilp, .nils, .dat (.int .i64 0), .dat (.int .u32 0), .dat (.int .i64 0), .dat (.int .i64 0)]

theorem valid_nil : KJ 34 [.nilp] [] = some (.dat (.bool false), []) := callT_ev (fn := fn34) rfl rfl (by simp [runFun_eq])
theorem valid_z : KJ 34 [.ref (0,0) 0] [zDisk] = some (.dat (.bool false), [zDisk]) := callT_ev (fn := fn34) rfl rfl (by simp [runFun_eq, zDisk])
theorem jvalid_nil : KJ 39 [.nilp] [] = some (.dat (.bool false), []) := callT_ev (fn := fn39) rfl rfl (by simp [runFun_eq])
theorem jvalid_z : KJ 39 [.ref (0,0) 0] [zJour] = some (.dat (.bool false), [zJour]) := callT_ev (fn := fn39) rfl rfl (by simp [runFun_eq, zJour])

theorem read_nil (i : Int) : KJ 24 [.nilp, .dat (.int .i64 i)] [] = some (.tup [.dat (.sl []), .dat (.int .i64 23)], []) := callT_ev (fn := fn24) rfl rfl (by simp [runFun_eq, valid_nil])
theorem read_z (i : Int) : KJ 24 [.ref (0,0) 0, .dat (.int .i64 i)] [zDisk] = some (.tup [.dat (.sl []), .dat (.int .i64 23)], [zDisk]) := by
  have h := valid_z
  refine callT_ev (fn := fn24) rfl rfl ?_
  simp [runFun_eq, zDisk] at h ⊢
  simp [h]

theorem open_nil : KJ 10 [.nilp] [] = some (.tup [.nilp, .dat (.sl []), .dat (.int .i64 23)], []) := callT_ev (fn := fn10) rfl rfl (by simp [runFun_eq, valid_nil])
theorem open_z : KJ 10 [.ref (0,0) 0] [zDisk] = some (.tup [.nilp, .dat (.sl []), .dat (.int .i64 23)], [zDisk]) := by
  have h := valid_z
  refine callT_ev (fn := fn10) rfl rfl ?_
  simp [runFun_eq, zDisk] at h ⊢
  simp [h]
theorem write_nil (i : Int) (b : List Dat) : KJ 15 [.nilp, .dat (.int .i64 i), .dat (.sl b)] [] = some (.dat (.int .i64 23), []) := callT_ev (fn := fn15) rfl rfl (by simp [runFun_eq, valid_nil])
theorem write_z (i : Int) (b : List Dat) : KJ 15 [.ref (0,0) 0, .dat (.int .i64 i), .dat (.sl b)] [zDisk] = some (.dat (.int .i64 23), [zDisk]) := by
  have h := valid_z
  refine callT_ev (fn := fn15) rfl rfl ?_
  simp [runFun_eq, zDisk] at h ⊢
  simp [h]
theorem sync_nil : KJ 16 [.nilp] [] = some (.dat (.int .i64 23), []) := callT_ev (fn := fn16) rfl rfl (by simp [runFun_eq, valid_nil])
theorem sync_z : KJ 16 [.ref (0,0) 0] [zDisk] = some (.dat (.int .i64 23), [zDisk]) := by
  have h := valid_z
  refine callT_ev (fn := fn16) rfl rfl ?_
  simp [runFun_eq, zDisk] at h ⊢
  simp [h]
theorem crash_nil (b : List Dat) : KJ 22 [.nilp, .dat (.sl b)] [] = some (.dat (.int .i64 23), []) := callT_ev (fn := fn22) rfl rfl (by simp [runFun_eq, valid_nil])
theorem crash_z (b : List Dat) : KJ 22 [.ref (0,0) 0, .dat (.sl b)] [zDisk] = some (.dat (.int .i64 23), [zDisk]) := by
  have h := valid_z
  refine callT_ev (fn := fn22) rfl rfl ?_
  simp [runFun_eq, zDisk] at h ⊢
  simp [h]
theorem pending_nil : KJ 26 [.nilp] [] = some (.dat (.int .i64 0), []) := callT_ev (fn := fn26) rfl rfl (by simp [runFun_eq, valid_nil])
theorem pending_z : KJ 26 [.ref (0,0) 0] [zDisk] = some (.dat (.int .i64 0), [zDisk]) := by
  have h := valid_z
  refine callT_ev (fn := fn26) rfl rfl ?_
  simp [runFun_eq, zDisk] at h ⊢
  simp [h]
theorem last_nil : KJ 30 [.nilp] [] = some (.tup [.dat (.sl []), .dat (.bool false)], []) := callT_ev (fn := fn30) rfl rfl (by simp [runFun_eq, jvalid_nil])
theorem last_z : KJ 30 [.ref (0,0) 0] [zJour] = some (.tup [.dat (.sl []), .dat (.bool false)], [zJour]) := by
  have h := jvalid_z
  refine callT_ev (fn := fn30) rfl rfl ?_
  simp [runFun_eq, zJour] at h ⊢
  simp [h]
theorem append_nil (b : List Dat) : KJ 13 [.nilp, .dat (.sl b)] [] = some (.dat (.int .i64 23), []) := callT_ev (fn := fn13) rfl rfl (by simp [runFun_eq, jvalid_nil])
theorem append_z (b : List Dat) : KJ 13 [.ref (0,0) 0, .dat (.sl b)] [zJour] = some (.dat (.int .i64 23), [zJour]) := by
  have h := jvalid_z
  refine callT_ev (fn := fn13) rfl rfl ?_
  simp [runFun_eq, zJour] at h ⊢
  simp [h]
theorem len_nil : KJ 32 [.nilp] [] = some (.dat (.int .i64 0), []) := callT_ev (fn := fn32) rfl rfl (by simp [runFun_eq, jvalid_nil])
theorem len_z : KJ 32 [.ref (0,0) 0] [zJour] = some (.dat (.int .i64 0), [zJour]) := by
  have h := jvalid_z
  refine callT_ev (fn := fn32) rfl rfl ?_
  simp [runFun_eq, zJour] at h ⊢
  simp [h]

theorem journalNil_run (lives : KJ 8 [] [] = some (.dat (.bool true), [])) (i : Int) (b : List Dat) : KJ 6 [.dat (.int .i64 i), .dat (.sl b)] [] = some (.dat (.bool true), []) := by
  refine callT_ev (fn := fn6) rfl rfl ?_
  have h1 := read_z
  have h2 := open_z
  have h3 := write_z
  have h4 := sync_z
  have h5 := crash_z
  have h6 := pending_z
  have h7 := last_z
  have h8 := append_z
  have h9 := len_z
  simp only [zDisk, zJour] at h1 h2 h3 h4 h5 h6 h7 h8 h9
  simp [runFun_eq]
  simp only [ev_bnd_iff]
  apply ev_loop
  simp [read_nil, open_nil, write_nil, sync_nil, crash_nil, pending_nil, last_nil, append_nil, len_nil, wrap_i64]
  apply ev_loop
  simp [h1, h2, h3, h4, h5, h6, h7, h8, h9, wrap_i64]
  apply ev_loop
  simp [lives]
end Go.Am
