/- Parts of the proofs of the statement, joined and made short: ASnd. -/
import Derived.Test.YtgaeajfoiigbkaaGreatDoorP28
import Derived.Test.YtgaeajfoiigbkaaGreatDoorP29
import Derived.Test.YtgaeajfoiigbkaaGreatDoorP30
import Derived.Test.YtgaeajfoiigbkaaGreatDoorP31
import Derived.Test.YtgaeajfoiigbkaaGreatDoorP32
import Derived.Test.YtgaeajfoiigbkaaGreatDoorP33
import Derived.Test.YtgaeajfoiigbkaaGreatDoorP34
import Derived.Test.YtgaeajfoiigbkaaGreatDoorP35
import Derived.Test.YtgaeajfoiigbkaaGreatDoorP36
import Derived.Test.YtgaeajfoiigbkaaGreatDoorP37
import Derived.Test.YtgaeajfoiigbkaaGreatDoorP38
set_option linter.unusedVariables false
set_option linter.unusedSimpArgs false
set_option linter.unusedSectionVars false
set_option maxRecDepth 10000
set_option maxHeartbeats 4000000
namespace Go.Am
open Go.Proofs
theorem zrd7 : ∀ f fn,tfA f = some fn → ∃ an keep g,cFun Tryz.prog an keep f = some g ∧ fn = { g with split:=fn.split }:=by
 intro f fn h
 unfold tfA at h
 split at h
 ·cases h; exact ⟨ann15,false,fn15,c15,rfl⟩
 ·cases h; exact ⟨ann16,false,fn16,c16,rfl⟩
 ·cases h; exact ⟨ann18,false,fn18,c18,rfl⟩
 ·cases h; exact ⟨ann20,false,fn20,c20,rfl⟩
 ·cases h; exact ⟨ann31,false,fn31,c31,rfl⟩
 ·cases h; exact ⟨ann32,false,fn32,c32,rfl⟩
 ·cases h; exact ⟨ann33,false,fn33,c33,rfl⟩
 ·cases h; exact ⟨ann34,false,fn34,c34,rfl⟩
 ·cases h; exact ⟨ann35,false,fn35,c35,rfl⟩
 ·cases h; exact ⟨ann40,false,fn40,c40,rfl⟩
 ·cases h; exact ⟨ann41,false,fn41,c41,rfl⟩
 ·cases h; exact ⟨ann45,false,fn45,c45,rfl⟩
 ·cases h; exact ⟨ann48,false,fn48,c48,rfl⟩
 ·cases h; exact ⟨ann49,true,fn49,c49,rfl⟩
 ·cases h; exact ⟨ann51,false,fn51,c51,rfl⟩
 ·cases h; exact ⟨ann52,false,fn52,c52,rfl⟩
 ·cases h; exact ⟨ann53,false,fn53,c53,rfl⟩
 ·cases h; exact ⟨ann61,false,fn61,c61,rfl⟩
 ·cases h; exact ⟨ann62,false,fn62,c62,rfl⟩
 ·cases h; exact ⟨ann70,false,fn70,c70,rfl⟩
 ·cases h; exact ⟨ann71,false,fn71,c71,rfl⟩
 ·cases h; exact ⟨ann72,false,fn72,c72,rfl⟩
 ·cases h; exact ⟨ann73,false,fn73,c73,rfl⟩
 ·cases h; exact ⟨ann75,false,fn75,c75,rfl⟩
 ·cases h; exact ⟨ann76,false,fn76,c76,rfl⟩
 ·cases h; exact ⟨ann84,false,fn84,c84,rfl⟩
 ·cases h; exact ⟨ann85,false,fn85,c85,rfl⟩
 ·cases h; exact ⟨ann86,false,fn86,c86,rfl⟩
 ·cases h; exact ⟨ann87,false,fn87,c87,rfl⟩
 ·cases h; exact ⟨ann88,false,fn88,c88,rfl⟩
 ·cases h; exact ⟨ann90,false,fn90,c90,rfl⟩
 ·cases h; exact ⟨ann91,false,fn91,c91,rfl⟩
 ·cases h; exact ⟨ann92,true,fn92,c92,rfl⟩
 ·cases h; exact ⟨ann97,false,fn97,c97,rfl⟩
 ·cases h; exact ⟨ann99,false,fn99,c99,rfl⟩
 ·cases h; exact ⟨ann100,false,fn100,c100,rfl⟩
 ·cases h; exact ⟨ann101,true,fn101,c101,rfl⟩
 ·cases h; exact ⟨ann102,false,fn102,c102,rfl⟩
 ·cases h; exact ⟨ann103,false,fn103,c103,rfl⟩
 ·cases h; exact ⟨ann118,false,fn118,c118,rfl⟩
 ·cases h; exact ⟨ann119,false,fn119,c119,rfl⟩
 ·cases h; exact ⟨ann129,false,fn129,c129,rfl⟩
 ·cases h; exact ⟨ann130,false,fn130,c130,rfl⟩
 ·cases h; exact ⟨ann131,false,fn131,c131,rfl⟩
 ·cases h; exact ⟨ann136,false,fn136,c136,rfl⟩
 ·cases h; exact ⟨ann137,false,fn137,c137,rfl⟩
 ·cases h; exact ⟨ann138,true,fn138,c138,rfl⟩
 ·cases h; exact ⟨ann139,false,fn139,c139,rfl⟩
 ·cases h; exact ⟨ann141,true,fn141,c141,rfl⟩
 ·cases h; exact ⟨ann142,false,fn142,c142,rfl⟩
 ·cases h; exact ⟨ann143,false,fn143,c143,rfl⟩
 ·cases h; exact ⟨ann144,false,fn144,c144,rfl⟩
 ·cases h; exact ⟨ann145,false,fn145,c145,rfl⟩
 ·cases h; exact ⟨ann146,false,fn146,c146,rfl⟩
 ·cases h; exact ⟨ann160,false,fn160,c160,rfl⟩
 ·cases h; exact ⟨ann161,false,fn161,c161,rfl⟩
 ·cases h; exact ⟨ann162,false,fn162,c162,rfl⟩
 ·cases h; exact ⟨ann163,false,fn163,c163,rfl⟩
 ·cases h; exact ⟨ann165,true,fn165,c165,rfl⟩
 ·cases h; exact ⟨ann166,false,fn166,c166,rfl⟩
 ·cases h; exact ⟨ann167,false,fn167,c167,rfl⟩
 ·cases h; exact ⟨ann170,false,fn170,c170,rfl⟩
 ·cases h; exact ⟨ann171,false,fn171,c171,rfl⟩
 ·cases h; exact ⟨ann172,false,fn172,c172,rfl⟩
 ·cases h; exact ⟨ann173,false,fn173,c173,rfl⟩
 ·cases h; exact ⟨ann174,false,fn174,c174,rfl⟩
 ·cases h; exact ⟨ann175,false,fn175,c175,rfl⟩
 ·cases h; exact ⟨ann176,true,fn176,c176,rfl⟩
 ·cases h; exact ⟨ann177,false,fn177,c177,rfl⟩
 ·cases h; exact ⟨ann187,false,fn187,c187,rfl⟩
 ·cases h; exact ⟨ann188,false,fn188,c188,rfl⟩
 ·cases h; exact ⟨ann189,false,fn189,c189,rfl⟩
 ·cases h; exact ⟨ann190,false,fn190,c190,rfl⟩
 ·cases h; exact ⟨ann191,false,fn191,c191,rfl⟩
 ·cases h; exact ⟨ann192,false,fn192,c192,rfl⟩
 ·cases h; exact ⟨ann193,false,fn193,c193,rfl⟩
 ·cases h; exact ⟨ann194,false,fn194,c194,rfl⟩
 ·cases h; exact ⟨ann195,false,fn195,c195,rfl⟩
 ·cases h; exact ⟨ann196,true,fn196,c196,rfl⟩
 ·cases h; exact ⟨ann197,false,fn197,c197,rfl⟩
 ·cases h; exact ⟨ann199,true,fn199,c199,rfl⟩
 ·cases h; exact ⟨ann200,false,fn200,c200,rfl⟩
 ·cases h; exact ⟨ann201,false,fn201,c201,rfl⟩
 ·cases h; exact ⟨ann202,false,fn202,c202,rfl⟩
 ·cases h; exact ⟨ann205,false,fn205,c205,rfl⟩
 ·cases h; exact ⟨ann207,false,fn207,c207,rfl⟩
 ·cases h; exact ⟨ann208,false,fn208,c208,rfl⟩
 ·cases h; exact ⟨ann211,false,fn211,c211,rfl⟩
 ·cases h; exact ⟨ann212,false,fn212,c212,rfl⟩
 ·cases h; exact ⟨ann218,false,fn218,c218,rfl⟩
 ·cases h; exact ⟨ann222,false,fn222,c222,rfl⟩
 ·cases h; exact ⟨ann223,true,fn223,c223,rfl⟩
 ·cases h; exact ⟨ann224,false,fn224,c224,rfl⟩
 ·cases h; exact ⟨ann225,true,fn225,c225,rfl⟩
 ·cases h; exact ⟨ann226,true,fn226,c226,rfl⟩
 ·cases h; exact ⟨ann227,false,fn227,c227,rfl⟩
 ·cases h; exact ⟨ann228,true,fn228,c228,rfl⟩
 ·cases h; exact ⟨ann229,true,fn229,c229,rfl⟩
 ·cases h; exact ⟨ann230,false,fn230,c230,rfl⟩
 ·cases h; exact ⟨ann231,false,fn231,c231,rfl⟩
 ·cases h; exact ⟨ann232,false,fn232,c232,rfl⟩
 ·cases h; exact ⟨ann233,true,fn233,c233,rfl⟩
 ·cases h; exact ⟨ann234,false,fn234,c234,rfl⟩
 ·cases h; exact ⟨ann237,false,fn237,c237,rfl⟩
 ·cases h; exact ⟨ann238,false,fn238,c238,rfl⟩
 ·cases h; exact ⟨ann239,false,fn239,c239,rfl⟩
 ·cases h; exact ⟨ann240,false,fn240,c240,rfl⟩
 ·cases h; exact ⟨ann241,false,fn241,c241,rfl⟩
 ·cases h; exact ⟨ann242,false,fn242,c242,rfl⟩
 ·cases h; exact ⟨ann243,false,fn243,c243,rfl⟩
 ·cases h; exact ⟨ann244,false,fn244,c244,rfl⟩
 ·cases h; exact ⟨ann245,false,fn245,c245,rfl⟩
 ·cases h; exact ⟨ann250,false,fn250,c250,rfl⟩
 ·cases h; exact ⟨ann251,true,fn251,c251,rfl⟩
 ·cases h; exact ⟨ann252,true,fn252,c252,rfl⟩
 ·cases h; exact ⟨ann253,false,fn253,c253,rfl⟩
 ·cases h; exact ⟨ann254,true,fn254,c254,rfl⟩
 ·cases h; exact ⟨ann256,false,fn256,c256,rfl⟩
 ·cases h; exact ⟨ann257,false,fn257,c257,rfl⟩
 ·cases h; exact ⟨ann258,false,fn258,c258,rfl⟩
 ·cases h; exact ⟨ann264,false,fn264,c264,rfl⟩
 ·cases h; exact ⟨ann266,false,fn266,c266,rfl⟩
 ·cases h; exact ⟨ann267,false,fn267,c267,rfl⟩
 ·cases h; exact ⟨ann273,false,fn273,c273,rfl⟩
 ·cases h; exact ⟨ann277,true,fn277,c277,rfl⟩
 ·cases h; exact ⟨ann278,false,fn278,c278,rfl⟩
 ·cases h; exact ⟨ann279,false,fn279,c279,rfl⟩
 ·cases h; exact ⟨ann280,false,fn280,c280,rfl⟩
 ·cases h; exact ⟨ann281,false,fn281,c281,rfl⟩
 ·cases h; exact ⟨ann282,true,fn282,c282,rfl⟩
 ·cases h; exact ⟨ann283,false,fn283,c283,rfl⟩
 ·cases h; exact ⟨ann284,false,fn284,c284,rfl⟩
 ·cases h; exact ⟨ann285,false,fn285,c285,rfl⟩
 ·cases h; exact ⟨ann286,false,fn286,c286,rfl⟩
 ·cases h; exact ⟨ann287,false,fn287,c287,rfl⟩
 ·cases h; exact ⟨ann290,false,fn290,c290,rfl⟩
 ·cases h; exact ⟨ann291,false,fn291,c291,rfl⟩
 ·cases h; exact ⟨ann292,false,fn292,c292,rfl⟩
 ·cases h; exact ⟨ann297,true,fn297,c297,rfl⟩
 ·cases h; exact ⟨ann303,true,fn303,c303,rfl⟩
 ·cases h; exact ⟨ann311,true,fn311,c311,rfl⟩
 ·cases h; exact ⟨ann312,false,fn312,c312,rfl⟩
 ·cases h; exact ⟨ann316,false,fn316,c316,rfl⟩
 ·cases h; exact ⟨ann317,false,fn317,c317,rfl⟩
 ·cases h; exact ⟨ann321,false,fn321,c321,rfl⟩
 ·cases h; exact ⟨ann322,false,fn322,c322,rfl⟩
 ·cases h; exact ⟨ann324,false,fn324,c324,rfl⟩
 ·cases h; exact ⟨ann325,false,fn325,c325,rfl⟩
 ·cases h; exact ⟨ann326,false,fn326,c326,rfl⟩
 ·cases h; exact ⟨ann327,false,fn327,c327,rfl⟩
 ·cases h; exact ⟨ann328,false,fn328,c328,rfl⟩
 ·cases h; exact ⟨ann329,false,fn329,c329,rfl⟩
 ·cases h; exact ⟨ann330,false,fn330,c330,rfl⟩
 ·cases h; exact ⟨ann331,true,fn331,c331,rfl⟩
 ·cases h; exact ⟨ann332,false,fn332,c332,rfl⟩
 ·cases h; exact ⟨ann333,false,fn333,c333,rfl⟩
 ·cases h; exact ⟨ann334,false,fn334,c334,rfl⟩
 ·cases h; exact ⟨ann335,false,fn335,c335,rfl⟩
 ·cases h; exact ⟨ann337,false,fn337,c337,rfl⟩
 ·cases h; exact ⟨ann345,false,fn345,c345,rfl⟩
 ·cases h; exact ⟨ann346,false,fn346,c346,rfl⟩
 ·cases h; exact ⟨ann347,false,fn347,c347,rfl⟩
 ·cases h; exact ⟨ann348,false,fn348,c348,rfl⟩
 ·cases h; exact ⟨ann351,false,fn351,c351,rfl⟩
 ·cases h; exact ⟨ann352,false,fn352,c352,rfl⟩
 ·cases h; exact ⟨ann353,false,fn353,c353,rfl⟩
 ·cases h; exact ⟨ann354,false,fn354,c354,rfl⟩
 ·cases h; exact ⟨ann355,true,fn355,c355,rfl⟩
 ·cases h; exact ⟨ann357,false,fn357,c357,rfl⟩
 ·cases h; exact ⟨ann360,true,fn360,c360,rfl⟩
 ·cases h; exact ⟨ann363,false,fn363,c363,rfl⟩
 ·cases h; exact ⟨ann364,false,fn364,c364,rfl⟩
 ·cases h; exact ⟨ann366,false,fn366,c366,rfl⟩
 ·cases h; exact ⟨ann367,false,fn367,c367,rfl⟩
 ·cases h; exact ⟨ann368,false,fn368,c368,rfl⟩
 ·cases h; exact ⟨ann371,false,fn371,c371,rfl⟩
 ·cases h; exact ⟨ann372,false,fn372,c372,rfl⟩
 ·cases h; exact ⟨ann373,false,fn373,c373,rfl⟩
 ·cases h; exact ⟨ann374,false,fn374,c374,rfl⟩
 ·cases h; exact ⟨ann375,false,fn375,c375,rfl⟩
 ·cases h
theorem tlA_ok : ∀ k lp,tlA k = some lp → ∃ an,cLoop Tryz.prog an k = some lp:=by
 intro k lp h
 unfold tlA at h
 split at h
 ·cases h; exact ⟨ann91,cl91⟩
 ·cases h; exact ⟨ann162,cl162⟩
 ·cases h; exact ⟨ann278,cl278⟩
 ·cases h; exact ⟨ann367,cl367⟩
 ·cases h
theorem T0_ok : TblOK Tryz.prog T0:=by
 refine ⟨fun f fn h => ?_,lawA_ok,tlA_ok,fun f fn c st h1 h2 h3 => by simp only [Glob.lps,h1,h2,h3],by kernel_rfl⟩
 simp only [T0,tfM] at h
 split at h
 ·cases h
 ·exact zrd7 f fn h
theorem tfA_y : tfA YID = none:=by kernel_rfl
theorem e1_ok : ∀ e ∈ Mm.e1,EntOK Tryz.prog e:=by
 intro e he
 unfold Mm.e1 at he
 simp only [List.mem_append] at he
 rcases he with (h1_0 | h1_1) | h1_2
 ·exact zab7 T0_ok zrd7 tfA_y k1_0 e h1_0
 ·exact zab7 T0_ok zrd7 tfA_y k1_1 e h1_1
 ·exact zab7 T0_ok zrd7 tfA_y k1_2 e h1_2
theorem T1_ok : TblOK Tryz.prog T1:=T0_ok.memo e1_ok
theorem e2_ok : ∀ e ∈ Mm.e2,EntOK Tryz.prog e:=by
 intro e he
 unfold Mm.e2 at he
 simp only [List.mem_append] at he
 rcases he with (h2_0 | h2_1) | h2_2
 ·exact zab7 T1_ok zrd7 tfA_y k2_0 e h2_0
 ·exact zab7 T1_ok zrd7 tfA_y k2_1 e h2_1
 ·exact zab7 T1_ok zrd7 tfA_y k2_2 e h2_2
theorem T2_ok : TblOK Tryz.prog T2:=T1_ok.memo e2_ok
theorem e3_ok : ∀ e ∈ Mm.e3,EntOK Tryz.prog e:=by
 intro e he
 unfold Mm.e3 at he
 exact zab7 T2_ok zrd7 tfA_y k3_0 e he
theorem T3_ok : TblOK Tryz.prog T3:=T2_ok.memo e3_ok
theorem e4_ok : ∀ e ∈ Mm.e4,EntOK Tryz.prog e:=by
 intro e he
 unfold Mm.e4 at he
 simp only [List.mem_append] at he
 rcases he with ((h4_0 | h4_1) | h4_2) | h4_3
 ·exact zab7 T3_ok zrd7 tfA_y k4_0 e h4_0
 ·exact zab7 T3_ok zrd7 tfA_y k4_1 e h4_1
 ·exact zab7 T3_ok zrd7 tfA_y k4_2 e h4_2
 ·exact zab7 T3_ok zrd7 tfA_y k4_3 e h4_3
theorem T4_ok : TblOK Tryz.prog T4:=T3_ok.memo e4_ok
theorem e5_ok : ∀ e ∈ Mm.e5,EntOK Tryz.prog e:=by
 intro e he
 unfold Mm.e5 at he
 simp only [List.mem_append] at he
 rcases he with (h5_0 | h5_1) | h5_2
 ·exact zab7 T4_ok zrd7 tfA_y k5_0 e h5_0
 ·exact zab7 T4_ok zrd7 tfA_y k5_1 e h5_1
 ·exact zab7 T4_ok zrd7 tfA_y k5_2 e h5_2
theorem T5_ok : TblOK Tryz.prog T5:=T4_ok.memo e5_ok
theorem e6_ok : ∀ e ∈ Mm.e6,EntOK Tryz.prog e:=by
 intro e he
 unfold Mm.e6 at he
 simp only [List.mem_append] at he
 rcases he with (h6_0 | h6_1) | h6_2
 ·exact zab7 T5_ok zrd7 tfA_y k6_0 e h6_0
 ·exact zab7 T5_ok zrd7 tfA_y k6_1 e h6_1
 ·exact zab7 T5_ok zrd7 tfA_y k6_2 e h6_2
theorem T6_ok : TblOK Tryz.prog T6:=T5_ok.memo e6_ok
theorem e7_ok : ∀ e ∈ Mm.e7,EntOK Tryz.prog e:=by
 intro e he
 unfold Mm.e7 at he
 exact zab7 T6_ok zrd7 tfA_y k7_0 e he
theorem T7_ok : TblOK Tryz.prog T7:=T6_ok.memo e7_ok
theorem e8_ok : ∀ e ∈ Mm.e8,EntOK Tryz.prog e:=by
 intro e he
 unfold Mm.e8 at he
 exact zab7 T7_ok zrd7 tfA_y k8_0 e he
theorem T8_ok : TblOK Tryz.prog T8:=T7_ok.memo e8_ok
theorem ex_ok : EntOK Tryz.prog ⟨15,[],.dat (.bool true)⟩:=e8_ok _ (by unfold Mm.e8 Mm.e8_0; simp)
end Go.Am
