/- Parts of the proofs of the statement, joined and made short: XGlob. -/
import Derived.Test.YtmoibjjpfemgjaaGreatDoorP20
import Derived.Test.YtmoibjjpfemgjaaGreatDoorP25
import Derived.Test.YtmoibjjpfemgjaaGreatDoorRows
import Derived.MakeChecks
import Derived.LaidMore
import Derived.Stop.Joined
set_option linter.unusedVariables false
set_option linter.unusedSimpArgs false
set_option linter.unusedSectionVars false
namespace Go.Am
open Go.Proofs Go.Proofs.YtmoibjjpfemgjaaGreatDoor Go.RowKit
theorem gIn:Tryz.prog.globalNamed "modelcheck/inst.rows" = some 0:=by kernel_rfl
theorem gVa:Tryz.prog.globalNamed "modelcheck/value.names" = some 1:=by kernel_rfl
theorem tIn:(Tryz.prog.globals[0]?).map (·.type)=some 175:=by kernel_rfl
theorem tVa:(Tryz.prog.globals[1]?).map (·.type)=some 240:=by kernel_rfl
abbrev vlaid:List (String×DataW Unit):=[("modelcheck/value.names",Rows.laid_modelcheck_value_names),("modelcheck/inst.rows",Rows.laid_modelcheck_inst_rows)]
theorem rdIn (w:World):ReadsV Tryz.prog w 175:=by
 refine zpf7 Tryz.underlying175 (by kernel_rfl) (readsV_struct Tryz.underlying174 (by kernel_rfl) fun i f hf=>?_)
 match i,hf with
 |0,hf=>cases hf;exact readsV_string Tryz.underlying9
 |1,hf=>cases hf;exact zpf7 Tryz.underlying172 (by kernel_rfl) (readsV_bool Tryz.underlying4)
 |i+2,hf=>simp at hf
theorem rdVa (w:World):ReadsV Tryz.prog w 240:=zpf7 Tryz.underlying240 (by kernel_rfl) (readsV_string Tryz.underlying9)
theorem globOK_of_laid {W:World} (h:laidMetH Tryz.prog vlaid W):GlobOK (allF W):=by
 rw[MakeChecks.laidMetH_plain _ _ _ (by kernel_rfl)]at h;obtain⟨ps,⟨g0,t0,cs0,f0,p0,q0,hg0,ht0,hv0,hd0,⟨g2,t2,cs2,f2,p2,q2,hg2,ht2,hv2,hd2,_,_⟩,_⟩,_,_⟩:=h;obtain rfl:=Option.some.inj (gVa.symm.trans hg0);obtain rfl:=Option.some.inj (gIn.symm.trans hg2);obtain rfl:=Option.some.inj (tVa.symm.trans ht0);obtain rfl:=Option.some.inj (tIn.symm.trans ht2);have a0:=rdVa W _ _ _ _ _ _ _ _ hd0;have a2:=rdIn W _ _ _ _ _ _ _ _ hd2
 have at_:∀{n:String} {g:Nat} {cs:Array Value},Tryz.prog.globalNamed n=some g→W.var? Tryz.prog n=some cs→cellsAt (allF W) g 0 cs.toList:=fun hg hv j v hj=>by
  have:=World.var?_cell hg hv j;simp only[allF,Nat.zero_add];rw[this];simpa using hj
 intro n ds hn;simp only[Glob.tab]at hn;split at hn
 ·cases hn;refine⟨_,?_,at_ hg2 hv2⟩;have e:flatW (H:=Unit) Rows.laid_modelcheck_inst_rows=glob0:=by kernel_rfl
  rw[←e];exact a2
 ·cases hn;refine⟨_,?_,at_ hg0 hv0⟩;have e:flatW (H:=Unit) Rows.laid_modelcheck_value_names=glob1:=by kernel_rfl
  rw[←e];exact a0
 ·cases hn
end Go.Am
