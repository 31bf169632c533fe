/- Several texts as one. -/
import Derived.Test.YtdgbckchckaagaaGreatDoorP3
import Derived.DeepKeys4
import Derived.Lib.SlicesCompact
import Derived.LoopN
import Derived.Sort.Grow
import Derived.Test.YtdgbckchckaagaaGreatDoorProg
set_option linter.unusedSectionVars false
set_option linter.unusedVariables false
set_option linter.unusedSimpArgs false
set_option maxRecDepth 20000
namespace Go.Sg
open Go.Proofs
theorem hb4:aO Tryz.prog 4=true:=by kernel_rfl
theorem hb5:aO Tryz.prog 5=true:=by kernel_rfl
theorem hb6:aO Tryz.prog 6=true:=by kernel_rfl
theorem bWb:pT Tryz.prog 22=some (9,1,16)∧pT Tryz.prog 29=some (121,14,264)∧pT Tryz.prog 30=some (3,1,8)∧pT Tryz.prog 37=some (4,1,1)∧pT Tryz.prog 44=some (240,3,24)∧pT Tryz.prog 67=some (144,3,24)∧pT Tryz.prog 118=some (131,2,16)∧pT Tryz.prog 119=some (152,2,16)∧pT Tryz.prog 246=some (67,1,24)∧cW Tryz.prog 3=some (none)∧cW Tryz.prog 4=some (none)∧cW Tryz.prog 9=some (none)∧cW Tryz.prog 22=some (none)∧cW Tryz.prog 23=some (none)∧cW Tryz.prog 24=some (none)∧cW Tryz.prog 25=some (none)∧cW Tryz.prog 26=some (none)∧cW Tryz.prog 28=some (some (6))∧cW Tryz.prog 29=some (none)∧cW Tryz.prog 30=some (none)∧cW Tryz.prog 32=some (some (5))∧cW Tryz.prog 33=some (none)∧cW Tryz.prog 35=some (some (2))∧cW Tryz.prog 36=some (none)∧cW Tryz.prog 37=some (none)∧cW Tryz.prog 38=some (none)∧cW Tryz.prog 39=some (none)∧cW Tryz.prog 40=some (none)∧cW Tryz.prog 42=some (some (2))∧cW Tryz.prog 43=some (none)∧cW Tryz.prog 44=some (none)∧cW Tryz.prog 45=some (none)∧cW Tryz.prog 46=some (none)∧cW Tryz.prog 47=some (none)∧cW Tryz.prog 48=some (none)∧cW Tryz.prog 49=some (none)∧cW Tryz.prog 50=some (none)∧cW Tryz.prog 53=some (none)∧cW Tryz.prog 55=some (some (30))∧cW Tryz.prog 64=some (some (7)):=by
 repeat refine ⟨aZ,?_⟩
 kernel_rfl
theorem bWx:cW Tryz.prog 67=some (none)∧cW Tryz.prog 69=some (some (3))∧cW Tryz.prog 71=some (some (10))∧cW Tryz.prog 74=some (none)∧cW Tryz.prog 75=some (none)∧cW Tryz.prog 85=some (some (32))∧cW Tryz.prog 86=some (none)∧cW Tryz.prog 88=some (some (2))∧cW Tryz.prog 107=some (some (14))∧cW Tryz.prog 118=some (none)∧cW Tryz.prog 119=some (none)∧cW Tryz.prog 121=some (some (14))∧cW Tryz.prog 131=some (some (2))∧cW Tryz.prog 134=some (some (3))∧cW Tryz.prog 140=some (some (4))∧cW Tryz.prog 144=some (some (3))∧cW Tryz.prog 152=some (some (2))∧cW Tryz.prog 154=some (some (4))∧cW Tryz.prog 156=some (some (7))∧cW Tryz.prog 158=some (some (4))∧cW Tryz.prog 166=some (some (4))∧cW Tryz.prog 171=some (some (3))∧cW Tryz.prog 182=some (some (3))∧cW Tryz.prog 203=some (some (3))∧cW Tryz.prog 240=some (some (3))∧cW Tryz.prog 246=some (none)∧d4 Tryz.prog 22=some (none,1)∧d4 Tryz.prog 23=some (none,7)∧d4 Tryz.prog 24=some (none,4)∧d4 Tryz.prog 25=some (none,4)∧d4 Tryz.prog 26=some (none,3)∧d4 Tryz.prog 29=some (none,14)∧d4 Tryz.prog 30=some (none,1)∧d4 Tryz.prog 33=some (none,3)∧d4 Tryz.prog 36=some (none,3)∧d4 Tryz.prog 37=some (none,1)∧d4 Tryz.prog 38=some (none,32)∧d4 Tryz.prog 39=some (none,14)∧d4 Tryz.prog 40=some (none,4)∧d4 Tryz.prog 43=some (none,4):=by
 repeat refine ⟨aZ,?_⟩
 kernel_rfl
theorem bWw:d4 Tryz.prog 44=some (none,3)∧d4 Tryz.prog 46=some (none,4)∧d4 Tryz.prog 49=some (none,2)∧d4 Tryz.prog 50=some (none,1)∧d4 Tryz.prog 67=some (none,3)∧d4 Tryz.prog 86=some (none,4)∧d4 Tryz.prog 118=some (none,2)∧d4 Tryz.prog 119=some (none,2)∧d4 Tryz.prog 171=some (some (3),1)∧d4 Tryz.prog 246=some (none,1)∧tk Tryz.prog 3=4∧tk Tryz.prog 4=3∧tk Tryz.prog 5=4∧tk Tryz.prog 9=1∧tk Tryz.prog 22=2∧tk Tryz.prog 23=2∧tk Tryz.prog 24=2∧tk Tryz.prog 25=2∧tk Tryz.prog 26=2∧tk Tryz.prog 29=2∧tk Tryz.prog 30=2∧tk Tryz.prog 33=2∧tk Tryz.prog 36=2∧tk Tryz.prog 37=2∧tk Tryz.prog 38=2∧tk Tryz.prog 39=2∧tk Tryz.prog 40=2∧tk Tryz.prog 43=2∧tk Tryz.prog 44=2∧tk Tryz.prog 45=2∧tk Tryz.prog 46=2∧tk Tryz.prog 47=2∧tk Tryz.prog 48=2∧tk Tryz.prog 49=2∧tk Tryz.prog 50=2∧tk Tryz.prog 53=2∧tk Tryz.prog 57=4∧tk Tryz.prog 67=2∧tk Tryz.prog 74=2∧tk Tryz.prog 75=2:=by
 repeat refine ⟨aZ,?_⟩
 kernel_rfl
theorem bWm:tk Tryz.prog 86=2∧tk Tryz.prog 118=2∧tk Tryz.prog 119=2∧tk Tryz.prog 152=0∧tk Tryz.prog 246=2∧(Tryz.prog.underlying 3).isSome=true∧aMt Tryz.prog 5=some (.u8)∧eE Tryz.prog 3=some ([.int .i64 0])∧eE Tryz.prog 4=some ([.bool false])∧eE Tryz.prog 9=some ([.string ⟨#[]⟩])∧eE Tryz.prog 32=some ([.slice none 0 0,.slice none 0 0,.slice none 0 0,.int .i64 0,.int .i64 0])∧eE Tryz.prog 64=some ([.slice none 0 0,.slice none 0 0,.slice none 0 0,.slice none 0 0,.slice none 0 0,.slice none 0 0,.slice none 0 0])∧eE Tryz.prog 67=some ([.slice none 0 0])∧eE Tryz.prog 71=some ([.int .i64 0,.string ⟨#[]⟩,.int .i64 0,.int .i64 0,.int .i64 0,.int .i64 0,.int .i64 0,.int .i64 0,.int .i64 0,.int .i64 0])∧eE Tryz.prog 85=some ([.slice none 0 0,.int .i64 0,.int .i64 0,.int .i64 0,.int .i64 0,.int .i64 0,.int .i64 0,.string ⟨#[]⟩,.int .i64 0,.int .i64 0,.int .i64 0,.int .i64 0,.int .i64 0,.int .i64 0,.int .i64 0,.int .i64 0,.int .i64 0,.int .i64 0,.int .i64 0,.int .i64 0,.int .i64 0,.int .i64 0,.int .i64 0,.int .i64 0,.slice none 0 0,.slice none 0 0,.int .i64 0,.int .i64 0,.int .i64 0,.int .i64 0,.bool false,.int .i64 0])∧eE Tryz.prog 107=some ([.int .i64 0,.int .i64 0,.int .i64 0,.int .i64 0,.slice none 0 0,.slice none 0 0,.slice none 0 0,.slice none 0 0,.slice none 0 0,.int .i64 0,.int .i64 0,.int .i64 0,.int .i64 0,.int .i64 0])∧eE Tryz.prog 121=some ([.string ⟨#[]⟩,.int .i64 0,.int .i64 0,.slice none 0 0,.slice none 0 0,.slice none 0 0,.int .i64 0,.int .i64 0,.slice none 0 0,.slice none 0 0,.slice none 0 0,.slice none 0 0,.slice none 0 0,.slice none 0 0])∧eE Tryz.prog 131=some ([.int .i64 0,.int .i64 0])∧eE Tryz.prog 134=some ([.int .i64 0,.int .i64 0,.int .i64 0])∧eE Tryz.prog 140=some ([.int .i64 0,.int .i64 0,.int .i64 0,.int .i64 0])∧eE Tryz.prog 144=some ([.int .i64 0,.int .i64 0,.int .i64 0])∧eE Tryz.prog 152=some ([.int .i64 0,.int .i64 0])∧eE Tryz.prog 154=some ([.string ⟨#[]⟩,.int .i64 0,.int .i64 0,.int .i64 0])∧eE Tryz.prog 156=some ([.string ⟨#[]⟩,.int .i64 0,.int .i64 0,.int .i64 0,.int .i64 0,.int .i64 0,.int .i64 0])∧eE Tryz.prog 158=some ([.int .i64 0,.int .i64 0,.int .i64 0,.int .i64 0])∧eE Tryz.prog 166=some ([.int .i64 0,.int .i64 0,.string ⟨#[]⟩,.string ⟨#[]⟩])∧eE Tryz.prog 171=some ([.slice none 0 0,.slice none 0 0,.slice none 0 0])∧eE Tryz.prog 182=some ([.int .i64 0,.int .i64 0,.int .i64 0])∧eE Tryz.prog 240=some ([.int .i64 0,.int .i64 0,.int .i64 0])∧eE Tryz.prog 242=some ([.int .i64 0,.int .i64 0,.int .i64 0,.int .i64 0])∧eE Tryz.prog 248=some ([.slice none 0 0])∧gQ Tryz.prog 3=some (1)∧gQ Tryz.prog 4=some (1)∧gQ Tryz.prog 9=some (1)∧gQ Tryz.prog 22=some (1)∧gQ Tryz.prog 29=some (1)∧gQ Tryz.prog 30=some (1)∧gQ Tryz.prog 32=some (5)∧gQ Tryz.prog 64=some (7)∧gQ Tryz.prog 67=some (1):=by
 repeat refine ⟨aZ,?_⟩
 kernel_rfl
theorem bWt:gQ Tryz.prog 71=some (10)∧gQ Tryz.prog 85=some (32)∧gQ Tryz.prog 107=some (14)∧gQ Tryz.prog 118=some (1)∧gQ Tryz.prog 119=some (1)∧gQ Tryz.prog 121=some (14)∧gQ Tryz.prog 131=some (2)∧gQ Tryz.prog 134=some (3)∧gQ Tryz.prog 140=some (4)∧gQ Tryz.prog 144=some (3)∧gQ Tryz.prog 152=some (2)∧gQ Tryz.prog 154=some (4)∧gQ Tryz.prog 156=some (7)∧gQ Tryz.prog 158=some (4)∧gQ Tryz.prog 166=some (4)∧gQ Tryz.prog 171=some (3)∧gQ Tryz.prog 182=some (3)∧gQ Tryz.prog 240=some (3)∧gQ Tryz.prog 246=some (1)∧aO Tryz.prog 7=true∧aO Tryz.prog 8=true∧aO Tryz.prog 9=true∧aO Tryz.prog 10=true∧aO Tryz.prog 11=true∧aO Tryz.prog 12=true∧aO Tryz.prog 13=true∧aO Tryz.prog 14=true∧aO Tryz.prog 15=true∧aO Tryz.prog 16=true∧aO Tryz.prog 17=true∧aO Tryz.prog 18=true∧aO Tryz.prog 19=true∧aO Tryz.prog 20=true∧aO Tryz.prog 21=true∧aO Tryz.prog 22=true∧aO Tryz.prog 23=true∧aO Tryz.prog 24=true∧aO Tryz.prog 25=true∧aO Tryz.prog 30=true∧aO Tryz.prog 31=true:=by
 repeat refine ⟨aZ,?_⟩
 kernel_rfl
theorem bWh:aO Tryz.prog 32=true∧aO Tryz.prog 34=true∧aO Tryz.prog 35=true∧aO Tryz.prog 36=true∧aO Tryz.prog 37=true∧aO Tryz.prog 38=true∧aO Tryz.prog 39=true∧aO Tryz.prog 40=true∧aO Tryz.prog 41=true∧aO Tryz.prog 42=true∧aO Tryz.prog 43=true∧aO Tryz.prog 44=true∧aO Tryz.prog 45=true∧aO Tryz.prog 46=true∧aO Tryz.prog 47=true∧aO Tryz.prog 48=true∧aO Tryz.prog 49=true∧aO Tryz.prog 50=true∧aO Tryz.prog 51=true∧aO Tryz.prog 52=true∧aO Tryz.prog 53=true∧aO Tryz.prog 54=true∧aO Tryz.prog 55=true∧aO Tryz.prog 56=true∧aO Tryz.prog 57=true∧aO Tryz.prog 58=true∧aO Tryz.prog 59=true∧aO Tryz.prog 60=true∧aO Tryz.prog 61=true∧aO Tryz.prog 62=true∧aO Tryz.prog 63=true∧aO Tryz.prog 64=true∧aO Tryz.prog 65=true∧aO Tryz.prog 66=true∧aO Tryz.prog 67=true∧aO Tryz.prog 68=true∧aO Tryz.prog 83=true∧aO Tryz.prog 84=true∧aO Tryz.prog 85=true∧aO Tryz.prog 86=true:=by
 repeat refine ⟨aZ,?_⟩
 kernel_rfl
theorem bWq:aO Tryz.prog 87=true∧aO Tryz.prog 88=true∧aO Tryz.prog 89=true∧aO Tryz.prog 90=true∧aO Tryz.prog 93=true∧aO Tryz.prog 94=true∧aO Tryz.prog 95=true∧aO Tryz.prog 96=true∧aO Tryz.prog 97=true∧aO Tryz.prog 98=true∧aO Tryz.prog 99=true∧aO Tryz.prog 100=true∧aO Tryz.prog 101=true∧aO Tryz.prog 102=true∧aO Tryz.prog 103=true∧aO Tryz.prog 104=true∧aO Tryz.prog 105=true∧aO Tryz.prog 106=true∧aO Tryz.prog 108=true∧aO Tryz.prog 109=true∧aO Tryz.prog 110=true∧aO Tryz.prog 111=true∧aO Tryz.prog 113=true∧aO Tryz.prog 114=true∧aO Tryz.prog 115=true∧aO Tryz.prog 116=true∧aO Tryz.prog 117=true∧aO Tryz.prog 118=true∧aO Tryz.prog 119=true∧aO Tryz.prog 120=true∧aO Tryz.prog 121=true∧aO Tryz.prog 122=true∧aO Tryz.prog 123=true∧aO Tryz.prog 124=true∧aO Tryz.prog 125=true∧aO Tryz.prog 126=true∧aO Tryz.prog 127=true∧aO Tryz.prog 128=true∧aO Tryz.prog 129=true∧aO Tryz.prog 130=true:=by
 repeat refine ⟨aZ,?_⟩
 kernel_rfl
theorem bWr:aO Tryz.prog 131=true∧aO Tryz.prog 132=true∧aO Tryz.prog 133=true∧aO Tryz.prog 134=true∧aO Tryz.prog 169=true∧aO Tryz.prog 172=true∧aO Tryz.prog 173=true∧aO Tryz.prog 174=true∧aO Tryz.prog 175=true∧aO Tryz.prog 176=true∧aO Tryz.prog 177=true∧aO Tryz.prog 179=true∧aO Tryz.prog 180=true∧aO Tryz.prog 181=true∧aO Tryz.prog 182=true∧aO Tryz.prog 183=true∧aO Tryz.prog 184=true∧aO Tryz.prog 185=true∧aO Tryz.prog 186=true∧aO Tryz.prog 187=true∧aO Tryz.prog 188=true∧aO Tryz.prog 189=true∧aO Tryz.prog 190=true∧aO Tryz.prog 191=true∧aO Tryz.prog 192=true∧aO Tryz.prog 193=true∧aO Tryz.prog 194=true∧aO Tryz.prog 195=true∧aO Tryz.prog 196=true∧aO Tryz.prog 197=true∧aO Tryz.prog 198=true∧aO Tryz.prog 199=true∧aO Tryz.prog 200=true∧aO Tryz.prog 230=true∧aO Tryz.prog 256=true∧aO Tryz.prog 257=true∧aO Tryz.prog 258=true∧aO Tryz.prog 259=true∧aO Tryz.prog 260=true∧qR Tryz.prog 131=some ([1,1]):=by
 repeat refine ⟨aZ,?_⟩
 kernel_rfl
theorem bWa:qR Tryz.prog 144=some ([1,1,1])∧qR Tryz.prog 152=some ([1,1])∧mD Tryz.prog 32=true∧mD Tryz.prog 64=true∧mD Tryz.prog 121=true∧mD Tryz.prog 131=true∧mD Tryz.prog 144=true∧mD Tryz.prog 152=true∧mD Tryz.prog 154=true∧mD Tryz.prog 171=true∧mD Tryz.prog 242=true∧mD Tryz.prog 248=true∧bG Tryz.prog 28 0=some (0)∧bG Tryz.prog 28 1=some (1)∧bG Tryz.prog 28 2=some (2)∧bG Tryz.prog 28 3=some (3)∧bG Tryz.prog 28 4=some (4)∧bG Tryz.prog 28 5=some (5)∧bG Tryz.prog 32 0=some (0)∧bG Tryz.prog 32 1=some (1)∧bG Tryz.prog 32 2=some (2)∧bG Tryz.prog 32 3=some (3)∧bG Tryz.prog 32 4=some (4)∧bG Tryz.prog 35 0=some (0)∧bG Tryz.prog 35 1=some (1)∧bG Tryz.prog 42 0=some (0)∧bG Tryz.prog 42 1=some (1)∧bG Tryz.prog 52 0=some (0)∧bG Tryz.prog 55 0=some (0)∧bG Tryz.prog 55 1=some (6)∧bG Tryz.prog 55 2=some (11)∧bG Tryz.prog 55 3=some (13)∧bG Tryz.prog 55 4=some (14)∧bG Tryz.prog 55 5=some (15)∧bG Tryz.prog 55 6=some (16)∧bG Tryz.prog 55 7=some (18)∧bG Tryz.prog 55 8=some (19)∧bG Tryz.prog 55 9=some (20)∧bG Tryz.prog 55 10=some (21)∧bG Tryz.prog 55 11=some (22):=by
 repeat refine ⟨aZ,?_⟩
 kernel_rfl
theorem bVy:bG Tryz.prog 55 12=some (23)∧bG Tryz.prog 55 13=some (24)∧bG Tryz.prog 55 14=some (25)∧bG Tryz.prog 55 15=some (27)∧bG Tryz.prog 55 16=some (28)∧bG Tryz.prog 55 17=some (29)∧bG Tryz.prog 64 0=some (0)∧bG Tryz.prog 64 1=some (1)∧bG Tryz.prog 64 2=some (2)∧bG Tryz.prog 64 3=some (3)∧bG Tryz.prog 64 4=some (4)∧bG Tryz.prog 64 5=some (5)∧bG Tryz.prog 64 6=some (6)∧bG Tryz.prog 69 0=some (0)∧bG Tryz.prog 69 1=some (1)∧bG Tryz.prog 69 2=some (2)∧bG Tryz.prog 71 0=some (0)∧bG Tryz.prog 71 1=some (1)∧bG Tryz.prog 71 2=some (2)∧bG Tryz.prog 71 3=some (3)∧bG Tryz.prog 71 4=some (4)∧bG Tryz.prog 71 5=some (5)∧bG Tryz.prog 71 6=some (6)∧bG Tryz.prog 71 7=some (7)∧bG Tryz.prog 71 8=some (8)∧bG Tryz.prog 71 9=some (9)∧bG Tryz.prog 77 2=some (2)∧bG Tryz.prog 77 3=some (3)∧bG Tryz.prog 79 0=some (0)∧bG Tryz.prog 83 0=some (0)∧bG Tryz.prog 83 5=some (16)∧bG Tryz.prog 85 0=some (0)∧bG Tryz.prog 85 4=some (6)∧bG Tryz.prog 88 0=some (0)∧bG Tryz.prog 88 1=some (1)∧bG Tryz.prog 90 3=some (3)∧bG Tryz.prog 107 0=some (0)∧bG Tryz.prog 107 4=some (4)∧bG Tryz.prog 107 5=some (5)∧bG Tryz.prog 107 6=some (6):=by
 repeat refine ⟨aZ,?_⟩
 kernel_rfl
theorem bRr:bG Tryz.prog 107 7=some (7)∧bG Tryz.prog 107 8=some (8)∧bG Tryz.prog 121 0=some (0)∧bG Tryz.prog 121 1=some (1)∧bG Tryz.prog 121 2=some (2)∧bG Tryz.prog 121 3=some (3)∧bG Tryz.prog 121 4=some (4)∧bG Tryz.prog 121 5=some (5)∧bG Tryz.prog 121 6=some (6)∧bG Tryz.prog 121 7=some (7)∧bG Tryz.prog 121 8=some (8)∧bG Tryz.prog 121 9=some (9)∧bG Tryz.prog 121 10=some (10)∧bG Tryz.prog 121 11=some (11)∧bG Tryz.prog 121 12=some (12)∧bG Tryz.prog 121 13=some (13)∧bG Tryz.prog 131 0=some (0)∧bG Tryz.prog 131 1=some (1)∧bG Tryz.prog 134 0=some (0)∧bG Tryz.prog 134 1=some (1)∧bG Tryz.prog 134 2=some (2)∧bG Tryz.prog 140 0=some (0)∧bG Tryz.prog 140 1=some (1)∧bG Tryz.prog 140 2=some (2)∧bG Tryz.prog 140 3=some (3)∧bG Tryz.prog 144 0=some (0)∧bG Tryz.prog 144 1=some (1)∧bG Tryz.prog 144 2=some (2)∧bG Tryz.prog 152 0=some (0)∧bG Tryz.prog 152 1=some (1)∧bG Tryz.prog 154 0=some (0)∧bG Tryz.prog 154 1=some (1)∧bG Tryz.prog 154 2=some (3)∧bG Tryz.prog 156 0=some (0)∧bG Tryz.prog 156 1=some (1)∧bG Tryz.prog 156 2=some (2)∧bG Tryz.prog 156 3=some (3)∧bG Tryz.prog 156 4=some (4)∧bG Tryz.prog 156 5=some (5)∧bG Tryz.prog 156 6=some (6):=by
 repeat refine ⟨aZ,?_⟩
 kernel_rfl
theorem bSu:bG Tryz.prog 158 0=some (0)∧bG Tryz.prog 158 1=some (2)∧bG Tryz.prog 166 0=some (0)∧bG Tryz.prog 182 0=some (0)∧bG Tryz.prog 182 1=some (1)∧bG Tryz.prog 182 2=some (2)∧bG Tryz.prog 203 0=some (0)∧bG Tryz.prog 203 1=some (1)∧bG Tryz.prog 203 2=some (2)∧bG Tryz.prog 240 0=some (0)∧bG Tryz.prog 240 1=some (1)∧bG Tryz.prog 240 2=some (2)∧bG Tryz.prog 242 0=some (0)∧bG Tryz.prog 242 1=some (3)∧bG Tryz.prog 248 0=some (0)∧fV Tryz.prog 32 1=some (1,1)∧fV Tryz.prog 32 3=some (3,1)∧fV Tryz.prog 32 4=some (4,1)∧fV Tryz.prog 64 0=some (0,1)∧fV Tryz.prog 64 1=some (1,1)∧fV Tryz.prog 64 2=some (2,1)∧fV Tryz.prog 64 3=some (3,1)∧fV Tryz.prog 64 4=some (4,1)∧fV Tryz.prog 121 0=some (0,1)∧fV Tryz.prog 121 1=some (1,1)∧fV Tryz.prog 121 2=some (2,1)∧fV Tryz.prog 121 3=some (3,1)∧fV Tryz.prog 121 4=some (4,1)∧fV Tryz.prog 121 5=some (5,1)∧fV Tryz.prog 121 7=some (7,1)∧fV Tryz.prog 131 0=some (0,1)∧fV Tryz.prog 131 1=some (1,1)∧fV Tryz.prog 144 0=some (0,1)∧fV Tryz.prog 144 1=some (1,1)∧fV Tryz.prog 144 2=some (2,1)∧fV Tryz.prog 152 0=some (0,1)∧fV Tryz.prog 152 1=some (1,1)∧fV Tryz.prog 242 0=some (0,3)∧fV Tryz.prog 242 1=some (3,1):=by
 repeat refine ⟨aZ,?_⟩
 kernel_rfl
attribute [go_sem] hb4 hb5 hb6 bWb bWx bWw bWm bWt bWh bWq bWr bWa bVy bRr bSu
theorem eG:Tryz.prog.follows .mixedOrders=true:=by kernel_rfl
abbrev bZw (n:Int):Prop:= -9223372036854775808≤n∧n≤9223372036854775807
abbrev cEp (s:ByteArray):Prop:=s.size≤140737488355328
structure lL where
 fName:ByteArray
 fKind:Int
 fLength:Int
 fGrade:Int
 fSpeed:Int
 fSlow:Int
 fSection:Int
 deriving DecidableEq,Inhabited
def iD (x:lL):List DV:=[vs x.fName,vi x.fKind,vi x.fLength,vi x.fGrade,vi x.fSpeed,vi x.fSlow,vi x.fSection]
def wP (x:lL):Prop:=cEp x.fName∧bZw x.fKind∧bZw x.fLength∧bZw x.fGrade∧bZw x.fSpeed∧bZw x.fSlow∧bZw x.fSection
structure cP where
 fEl:Int
 fSide:Int
 deriving DecidableEq,Inhabited
def cN (x:cP):List DV:=[vi x.fEl,vi x.fSide]
def aGm (x:cP):Prop:=bZw x.fEl∧bZw x.fSide
theorem bFb (l:List cP) (xel:Int) (xside:Int):l.map cN++[[vi xel,vi xside]]=(l++[(⟨xel,xside⟩:cP)]).map cN:=by simp[cN]
theorem bLw (l:List cP):((List.range l.length).map fun i=>[vi (l.getD i default).fEl,vi (l.getD i default).fSide])=l.map cN:=oF cN l
theorem fT (x y:cP):x=y↔x.fEl=y.fEl∧x.fSide=y.fSide:=by cases x;cases y;simp
structure i9 where
 fA:cP
 fB:cP
 deriving DecidableEq,Inhabited
def xB (x:i9):List DV:=[vi x.fA.fEl,vi x.fA.fSide,vi x.fB.fEl,vi x.fB.fSide]
def aIh (x:i9):Prop:=(aGm x.fA)∧(aGm x.fB)
structure hZ where
 fName:ByteArray
 fAt:cP
 fOverlap:Int
 deriving DecidableEq,Inhabited
def fC (x:hZ):List DV:=[vs x.fName,vi x.fAt.fEl,vi x.fAt.fSide,vi x.fOverlap]
def aBs (x:hZ):Prop:=cEp x.fName∧(aGm x.fAt)∧bZw x.fOverlap
structure l1 where
 fId:Int
 fEl:Int
 fOffset:Int
 deriving DecidableEq,Inhabited
def rO (x:l1):List DV:=[vi x.fId,vi x.fEl,vi x.fOffset]
def aDs (x:l1):Prop:=bZw x.fId∧bZw x.fEl∧bZw x.fOffset
structure aE where
 fName:ByteArray
 fSections:(List ByteArray)
 fElements:(List lL)
 fJoints:(List i9)
 fSignals:(List hZ)
 fBalises:(List l1)
 deriving DecidableEq,Inhabited
def aQ (x:aE):List DV:=[vs x.fName,encL 1 eS x.fSections,encL 7 iD x.fElements,encL 4 xB x.fJoints,encL 4 fC x.fSignals,encL 3 rO x.fBalises]
def aCw (x:aE):Prop:=cEp x.fName∧((∀a∈x.fSections,a.size≤140737488355328)∧x.fSections.length≤140737488355328)∧((∀a∈x.fElements,wP a)∧x.fElements.length≤140737488355328)∧((∀a∈x.fJoints,aIh a)∧x.fJoints.length≤140737488355328)∧((∀a∈x.fSignals,aBs a)∧x.fSignals.length≤140737488355328)∧((∀a∈x.fBalises,aDs a)∧x.fBalises.length≤140737488355328)
structure bF where
 fEl:Int
 fIn:Int
 fOut:Int
 deriving DecidableEq,Inhabited
def cM (x:bF):List DV:=[vi x.fEl,vi x.fIn,vi x.fOut]
def wR (x:bF):Prop:=bZw x.fEl∧bZw x.fIn∧bZw x.fOut
theorem aYd (l:List bF) (xel:Int) (xin:Int) (xout:Int):l.map cM++[[vi xel,vi xin,vi xout]]=(l++[(⟨xel,xin,xout⟩:bF)]).map cM:=by simp[cM]
theorem bFg (l:List bF):((List.range l.length).map fun i=>[vi (l.getD i default).fEl,vi (l.getD i default).fIn,vi (l.getD i default).fOut])=l.map cM:=oF cM l
theorem bJc (x y:bF):x=y↔x.fEl=y.fEl∧x.fIn=y.fIn∧x.fOut=y.fOut:=by cases x;cases y;simp
structure aM where
 fEl:Int
 fPos:Int
 deriving DecidableEq,Inhabited
def bJ (x:aM):List DV:=[vi x.fEl,vi x.fPos]
def oA (x:aM):Prop:=bZw x.fEl∧bZw x.fPos
theorem aLv (l:List aM) (xel:Int) (xpos:Int):l.map bJ++[[vi xel,vi xpos]]=(l++[(⟨xel,xpos⟩:aM)]).map bJ:=by simp[bJ]
theorem aOu (l:List aM):((List.range l.length).map fun i=>[vi (l.getD i default).fEl,vi (l.getD i default).fPos])=l.map bJ:=oF bJ l
theorem gO (x y:aM):x=y↔x.fEl=y.fEl∧x.fPos=y.fPos:=by cases x;cases y;simp
structure bI where
 fName:ByteArray
 fEntry:Int
 fExit:Int
 fPath:(List bF)
 fPoints:(List aM)
 fSections:(List Int)
 fApproach:Int
 fLength:Int
 fOver:(List bF)
 fOverPoints:(List aM)
 fOverSections:(List Int)
 fFlank:(List aM)
 fGuards:(List Int)
 fGaps:(List cP)
 deriving DecidableEq,Inhabited
def bR (x:bI):List DV:=[vs x.fName,vi x.fEntry,vi x.fExit,encL 3 cM x.fPath,encL 2 bJ x.fPoints,encL 1 eI x.fSections,vi x.fApproach,vi x.fLength,encL 3 cM x.fOver,encL 2 bJ x.fOverPoints,encL 1 eI x.fOverSections,encL 2 bJ x.fFlank,encL 1 eI x.fGuards,encL 2 cN x.fGaps]
def aIs (x:bI):Prop:=cEp x.fName∧bZw x.fEntry∧bZw x.fExit∧((∀a∈x.fPath,wR a)∧x.fPath.length≤140737488355328)∧((∀a∈x.fPoints,oA a)∧x.fPoints.length≤140737488355328)∧((∀a∈x.fSections,-9223372036854775808≤a∧a≤9223372036854775807)∧x.fSections.length≤140737488355328)∧bZw x.fApproach∧bZw x.fLength∧((∀a∈x.fOver,wR a)∧x.fOver.length≤140737488355328)∧((∀a∈x.fOverPoints,oA a)∧x.fOverPoints.length≤140737488355328)∧((∀a∈x.fOverSections,-9223372036854775808≤a∧a≤9223372036854775807)∧x.fOverSections.length≤140737488355328)∧((∀a∈x.fFlank,oA a)∧x.fFlank.length≤140737488355328)∧((∀a∈x.fGuards,-9223372036854775808≤a∧a≤9223372036854775807)∧x.fGuards.length≤140737488355328)∧((∀a∈x.fGaps,aGm a)∧x.fGaps.length≤140737488355328)
theorem aDn (x y:bI):x=y↔x.fName=y.fName∧x.fEntry=y.fEntry∧x.fExit=y.fExit∧x.fPath=y.fPath∧x.fPoints=y.fPoints∧x.fSections=y.fSections∧x.fApproach=y.fApproach∧x.fLength=y.fLength∧x.fOver=y.fOver∧x.fOverPoints=y.fOverPoints∧x.fOverSections=y.fOverSections∧x.fFlank=y.fFlank∧x.fGuards=y.fGuards∧x.fGaps=y.fGaps:=by cases x;cases y;simp
structure bP where
 fRoutes:(List bI)
 fPoints:(List Int)
 fHomes:(List Int)
 fSections:Int
 fSignals:Int
 deriving DecidableEq,Inhabited
def bW (x:bP):List DV:=[encL 14 bR x.fRoutes,encL 1 eI x.fPoints,encL 1 eI x.fHomes,vi x.fSections,vi x.fSignals]
def aIt (x:bP):Prop:=((∀a∈x.fRoutes,aIs a)∧x.fRoutes.length≤140737488355328)∧((∀a∈x.fPoints,-9223372036854775808≤a∧a≤9223372036854775807)∧x.fPoints.length≤140737488355328)∧((∀a∈x.fHomes,-9223372036854775808≤a∧a≤9223372036854775807)∧x.fHomes.length≤140737488355328)∧bZw x.fSections∧bZw x.fSignals
theorem aCh (x y:bP):x=y↔x.fRoutes=y.fRoutes∧x.fPoints=y.fPoints∧x.fHomes=y.fHomes∧x.fSections=y.fSections∧x.fSignals=y.fSignals:=by cases x;cases y;simp
structure d6 where
 fState:Int
 fRel:Int
 fTimer:Int
 deriving DecidableEq,Inhabited
def iX (x:d6):List DV:=[vi x.fState,vi x.fRel,vi x.fTimer]
def oM (x:d6):Prop:=bZw x.fState∧bZw x.fRel∧bZw x.fTimer
structure dO where
 fRoutes:(List d6)
 fLies:(List Int)
 deriving DecidableEq,Inhabited
def iT (x:dO):List DV:=[encL 3 iX x.fRoutes,encL 1 eI x.fLies]
def aRe (x:dO):Prop:=((∀a∈x.fRoutes,oM a)∧x.fRoutes.length≤140737488355328)∧((∀a∈x.fLies,-9223372036854775808≤a∧a≤9223372036854775807)∧x.fLies.length≤140737488355328)
structure e5 where
 fPos:Int
 fGoal:Int
 fTimer:Int
 deriving DecidableEq,Inhabited
def fJ (x:e5):List DV:=[vi x.fPos,vi x.fGoal,vi x.fTimer]
def rC (x:e5):Prop:=bZw x.fPos∧bZw x.fGoal∧bZw x.fTimer
structure wJ where
 fSteps:(List bF)
 fHead:Int
 fLength:Int
 deriving DecidableEq,Inhabited
def y9 (x:wJ):List DV:=[encL 3 cM x.fSteps,vi x.fHead,vi x.fLength]
def bAa (x:wJ):Prop:=((∀a∈x.fSteps,wR a)∧x.fSteps.length≤140737488355328)∧bZw x.fHead∧bZw x.fLength
structure yW where
 fId:Int
 fName:ByteArray
 fLength:Int
 fSpeed:Int
 fAccel:Int
 fService:Int
 fEmergency:Int
 fDelay:Int
 fConst:Int
 fRate:Int
 deriving DecidableEq,Inhabited
def aNs (x:yW):List DV:=[vi x.fId,vs x.fName,vi x.fLength,vi x.fSpeed,vi x.fAccel,vi x.fService,vi x.fEmergency,vi x.fDelay,vi x.fConst,vi x.fRate]
def aSf (x:yW):Prop:=bZw x.fId∧cEp x.fName∧bZw x.fLength∧bZw x.fSpeed∧bZw x.fAccel∧bZw x.fService∧bZw x.fEmergency∧bZw x.fDelay∧bZw x.fConst∧bZw x.fRate
structure v8 where
 fMin:Int
 fMax:Int
 fSpeed:Int
 deriving DecidableEq,Inhabited
def aGw (x:v8):List DV:=[vi x.fMin,vi x.fMax,vi x.fSpeed]
def aBo (x:v8):Prop:=bZw x.fMin∧bZw x.fMax∧bZw x.fSpeed
structure vO where
 fFrom:Int
 fTo:Int
 fGrade:Int
 fSpeed:Int
 deriving DecidableEq,Inhabited
def nZ (x:vO):List DV:=[vi x.fFrom,vi x.fTo,vi x.fGrade,vi x.fSpeed]
def wZ (x:vO):Prop:=bZw x.fFrom∧bZw x.fTo∧bZw x.fGrade∧bZw x.fSpeed
structure aEc where
 fId:Int
 fAt:Int
 deriving DecidableEq,Inhabited
def rQ (x:aEc):List DV:=[vi x.fId,vi x.fAt]
def aDo (x:aEc):Prop:=bZw x.fId∧bZw x.fAt
structure rS where
 fSeq:Int
 fEnd:Int
 fProfile:(List vO)
 fLinks:(List aEc)
 deriving DecidableEq,Inhabited
def aBt (x:rS):List DV:=[vi x.fSeq,vi x.fEnd,encL 4 nZ x.fProfile,encL 2 rQ x.fLinks]
def yI (x:rS):Prop:=bZw x.fSeq∧bZw x.fEnd∧((∀a∈x.fProfile,wZ a)∧x.fProfile.length≤140737488355328)∧((∀a∈x.fLinks,aDo a)∧x.fLinks.length≤140737488355328)
structure sC where
 fPeer:Int
 fOut:Int
 fIn:Int
 fHeard:Int
 deriving DecidableEq,Inhabited
def rF (x:sC):List DV:=[vi x.fPeer,vi x.fOut,vi x.fIn,vi x.fHeard]
def rX (x:sC):Prop:=bZw x.fPeer∧bZw x.fOut∧bZw x.fIn∧bZw x.fHeard
structure bEj where
 fKnown:Bool
 fSince:Int
 deriving DecidableEq,Inhabited
def bJm (x:bEj):List DV:=[vb x.fKnown,vi x.fSince]
def aYr (x:bEj):Prop:=(True)∧bZw x.fSince
structure Cab where
 fTrain:yW
 fMode:Int
 fBrake:Int
 fNext:Int
 fEst:v8
 fAuth:rS
 fSession:sC
 fTail:bEj
 deriving DecidableEq,Inhabited
def bVt (x:Cab):List DV:=[vi x.fTrain.fId,vs x.fTrain.fName,vi x.fTrain.fLength,vi x.fTrain.fSpeed,vi x.fTrain.fAccel,vi x.fTrain.fService,vi x.fTrain.fEmergency,vi x.fTrain.fDelay,vi x.fTrain.fConst,vi x.fTrain.fRate,vi x.fMode,vi x.fBrake,vi x.fNext,vi x.fEst.fMin,vi x.fEst.fMax,vi x.fEst.fSpeed,vi x.fAuth.fSeq,vi x.fAuth.fEnd,encL 4 nZ x.fAuth.fProfile,encL 2 rQ x.fAuth.fLinks,vi x.fSession.fPeer,vi x.fSession.fOut,vi x.fSession.fIn,vi x.fSession.fHeard,vb x.fTail.fKnown,vi x.fTail.fSince]
def bJq (x:Cab):Prop:=(aSf x.fTrain)∧bZw x.fMode∧bZw x.fBrake∧bZw x.fNext∧(aBo x.fEst)∧(yI x.fAuth)∧(rX x.fSession)∧(aYr x.fTail)
structure eX where
 fBody:wJ
 fSpeed:Int
 fX:Int
 fBraking:Int
 fCab:Cab
 deriving DecidableEq,Inhabited
def s8 (x:eX):List DV:=[encL 3 cM x.fBody.fSteps,vi x.fBody.fHead,vi x.fBody.fLength,vi x.fSpeed,vi x.fX,vi x.fBraking,vi x.fCab.fTrain.fId,vs x.fCab.fTrain.fName,vi x.fCab.fTrain.fLength,vi x.fCab.fTrain.fSpeed,vi x.fCab.fTrain.fAccel,vi x.fCab.fTrain.fService,vi x.fCab.fTrain.fEmergency,vi x.fCab.fTrain.fDelay,vi x.fCab.fTrain.fConst,vi x.fCab.fTrain.fRate,vi x.fCab.fMode,vi x.fCab.fBrake,vi x.fCab.fNext,vi x.fCab.fEst.fMin,vi x.fCab.fEst.fMax,vi x.fCab.fEst.fSpeed,vi x.fCab.fAuth.fSeq,vi x.fCab.fAuth.fEnd,encL 4 nZ x.fCab.fAuth.fProfile,encL 2 rQ x.fCab.fAuth.fLinks,vi x.fCab.fSession.fPeer,vi x.fCab.fSession.fOut,vi x.fCab.fSession.fIn,vi x.fCab.fSession.fHeard,vb x.fCab.fTail.fKnown,vi x.fCab.fTail.fSince]
def aIa (x:eX):Prop:=(bAa x.fBody)∧bZw x.fSpeed∧bZw x.fX∧bZw x.fBraking∧(bJq x.fCab)
structure g8 where
 fId:Int
 fOrigin:Int
 fEnd:Int
 fAt:Int
 fSteps:(List bF)
 fRoutes:(List Int)
 fStarts:(List Int)
 fEnds:(List Int)
 fDone:(List Int)
 fMin:Int
 fSent:Int
 fAccepted:Int
 fCut:Int
 fCutSeq:Int
 deriving DecidableEq,Inhabited
def jP (x:g8):List DV:=[vi x.fId,vi x.fOrigin,vi x.fEnd,vi x.fAt,encL 3 cM x.fSteps,encL 1 eI x.fRoutes,encL 1 eI x.fStarts,encL 1 eI x.fEnds,encL 1 eI x.fDone,vi x.fMin,vi x.fSent,vi x.fAccepted,vi x.fCut,vi x.fCutSeq]
def aGz (x:g8):Prop:=bZw x.fId∧bZw x.fOrigin∧bZw x.fEnd∧bZw x.fAt∧((∀a∈x.fSteps,wR a)∧x.fSteps.length≤140737488355328)∧((∀a∈x.fRoutes,-9223372036854775808≤a∧a≤9223372036854775807)∧x.fRoutes.length≤140737488355328)∧((∀a∈x.fStarts,-9223372036854775808≤a∧a≤9223372036854775807)∧x.fStarts.length≤140737488355328)∧((∀a∈x.fEnds,-9223372036854775808≤a∧a≤9223372036854775807)∧x.fEnds.length≤140737488355328)∧((∀a∈x.fDone,-9223372036854775808≤a∧a≤9223372036854775807)∧x.fDone.length≤140737488355328)∧bZw x.fMin∧bZw x.fSent∧bZw x.fAccepted∧bZw x.fCut∧bZw x.fCutSeq
structure x6 where
 fTracks:(List g8)
 fSessions:(List sC)
 deriving DecidableEq,Inhabited
def z1 (x:x6):List DV:=[encL 14 jP x.fTracks,encL 4 rF x.fSessions]
def aBn (x:x6):Prop:=((∀a∈x.fTracks,aGz a)∧x.fTracks.length≤140737488355328)∧((∀a∈x.fSessions,rX a)∧x.fSessions.length≤140737488355328)
structure wS where
 fFrom:Int
 fTo:Int
 fAge:Int
 fData:ByteArray
 deriving DecidableEq,Inhabited
def aAc (x:wS):List DV:=[vi x.fFrom,vi x.fTo,vi x.fAge,vs x.fData]
def aCk (x:wS):Prop:=bZw x.fFrom∧bZw x.fTo∧bZw x.fAge∧cEp x.fData
structure fH where
 fKind:Int
 fAt:Int
 fUntil:Int
 deriving DecidableEq,Inhabited
def i6 (x:fH):List DV:=[vi x.fKind,vi x.fAt,vi x.fUntil]
def aJh (x:fH):Prop:=bZw x.fKind∧bZw x.fAt∧bZw x.fUntil
theorem aTu (l:List fH) (xkind:Int) (xat:Int) (xuntil:Int):l.map i6++[[vi xkind,vi xat,vi xuntil]]=(l++[(⟨xkind,xat,xuntil⟩:fH)]).map i6:=by simp[i6]
structure bDy where
 fKind:Int
 fSubject:Int
 fSince:Int
 fBy:ByteArray
 deriving DecidableEq,Inhabited
def aSc (x:bDy):List DV:=[vi x.fKind,vi x.fSubject,vi x.fSince,vs x.fBy]
def aPv (x:bDy):Prop:=bZw x.fKind∧bZw x.fSubject∧bZw x.fSince∧cEp x.fBy
structure dV where
 fSection:Int
 fSince:Int
 fBy:ByteArray
 fWith:ByteArray
 deriving DecidableEq,Inhabited
def fI (x:dV):List DV:=[vi x.fSection,vi x.fSince,vs x.fBy,vs x.fWith]
def o5 (x:dV):Prop:=bZw x.fSection∧bZw x.fSince∧cEp x.fBy∧cEp x.fWith
structure kJ where
 fId:Int
 fEl:Int
 fFrom:Int
 fTo:Int
 fSpeed:Int
 fActive:Bool
 deriving DecidableEq,Inhabited
def lJ (x:kJ):List DV:=[vi x.fId,vi x.fEl,vi x.fFrom,vi x.fTo,vi x.fSpeed,vb x.fActive]
def nB (x:kJ):Prop:=bZw x.fId∧bZw x.fEl∧bZw x.fFrom∧bZw x.fTo∧bZw x.fSpeed∧(True)
structure aNe where
 fTrain:Int
 fKind:Int
 fUntil:Int
 deriving DecidableEq,Inhabited
def aIj (x:aNe):List DV:=[vi x.fTrain,vi x.fKind,vi x.fUntil]
def aIi (x:aNe):Prop:=bZw x.fTrain∧bZw x.fKind∧bZw x.fUntil
structure wK where
 fRoute:Int
 fDue:Int
 fRun:Int
 fWeight:Int
 deriving DecidableEq,Inhabited
def aKa (x:wK):List DV:=[vi x.fRoute,vi x.fDue,vi x.fRun,vi x.fWeight]
def aOh (x:wK):Prop:=bZw x.fRoute∧bZw x.fDue∧bZw x.fRun∧bZw x.fWeight
structure eM where
 fTrain:Int
 fStops:(List wK)
 deriving DecidableEq,Inhabited
def yM (x:eM):List DV:=[vi x.fTrain,encL 4 aKa x.fStops]
def aQa (x:eM):Prop:=bZw x.fTrain∧((∀a∈x.fStops,aOh a)∧x.fStops.length≤140737488355328)
structure v7 where
 fStarts:(List (List Int))
 fCost:Int
 deriving DecidableEq,Inhabited
def aGk (x:v7):List DV:=[encL 1 (fun l:(List Int)=>[encL 1 eI l]) x.fStarts,vi x.fCost]
def aCl (x:v7):Prop:=((∀a∈x.fStarts,(∀a1∈a,-9223372036854775808≤a1∧a1≤9223372036854775807)∧a.length≤140737488355328)∧x.fStarts.length≤140737488355328)∧bZw x.fCost
structure qB where
 fAt:Int
 fTrip:Int
 fStop:Int
 fRoute:Int
 fDelay:Int
 deriving DecidableEq,Inhabited
def rV (x:qB):List DV:=[vi x.fAt,vi x.fTrip,vi x.fStop,vi x.fRoute,vi x.fDelay]
def tW (x:qB):Prop:=bZw x.fAt∧bZw x.fTrip∧bZw x.fStop∧bZw x.fRoute∧bZw x.fDelay
structure bS where
 fLayout:aE
 fTable:bP
 fInter:dO
 fMachines:(List e5)
 fClear:(List Bool)
 fUnits:(List eX)
 fCenter:x6
 fAir:(List wS)
 fFaults:(List fH)
 fPending:(List bDy)
 fPossessions:(List dV)
 fRestrictions:(List kJ)
 fOrders:(List aNe)
 fTrips:(List eM)
 fPlan:v7
 fProgress:(List Int)
 fDecisions:(List qB)
 fNow:Int
 deriving DecidableEq,Inhabited
def dM (x:bS):List DV:=[vs x.fLayout.fName,encL 1 eS x.fLayout.fSections,encL 7 iD x.fLayout.fElements,encL 4 xB x.fLayout.fJoints,encL 4 fC x.fLayout.fSignals,encL 3 rO x.fLayout.fBalises,encL 14 bR x.fTable.fRoutes,encL 1 eI x.fTable.fPoints,encL 1 eI x.fTable.fHomes,vi x.fTable.fSections,vi x.fTable.fSignals,encL 3 iX x.fInter.fRoutes,encL 1 eI x.fInter.fLies,encL 3 fJ x.fMachines,encL 1 eB x.fClear,encL 32 s8 x.fUnits,encL 14 jP x.fCenter.fTracks,encL 4 rF x.fCenter.fSessions,encL 4 aAc x.fAir,encL 3 i6 x.fFaults,encL 4 aSc x.fPending,encL 4 fI x.fPossessions,encL 6 lJ x.fRestrictions,encL 3 aIj x.fOrders,encL 2 yM x.fTrips,encL 1 (fun l:(List Int)=>[encL 1 eI l]) x.fPlan.fStarts,vi x.fPlan.fCost,encL 1 eI x.fProgress,encL 5 rV x.fDecisions,vi x.fNow]
def oN (x:bS):Prop:=(aCw x.fLayout)∧(aIt x.fTable)∧(aRe x.fInter)∧((∀a∈x.fMachines,rC a)∧x.fMachines.length≤140737488355328)∧((∀a∈x.fClear,True)∧x.fClear.length≤140737488355328)∧((∀a∈x.fUnits,aIa a)∧x.fUnits.length≤140737488355328)∧(aBn x.fCenter)∧((∀a∈x.fAir,aCk a)∧x.fAir.length≤140737488355328)∧((∀a∈x.fFaults,aJh a)∧x.fFaults.length≤140737488355328)∧((∀a∈x.fPending,aPv a)∧x.fPending.length≤140737488355328)∧((∀a∈x.fPossessions,o5 a)∧x.fPossessions.length≤140737488355328)∧((∀a∈x.fRestrictions,nB a)∧x.fRestrictions.length≤140737488355328)∧((∀a∈x.fOrders,aIi a)∧x.fOrders.length≤140737488355328)∧((∀a∈x.fTrips,aQa a)∧x.fTrips.length≤140737488355328)∧(aCl x.fPlan)∧((∀a∈x.fProgress,-9223372036854775808≤a∧a≤9223372036854775807)∧x.fProgress.length≤140737488355328)∧((∀a∈x.fDecisions,tW a)∧x.fDecisions.length≤140737488355328)∧bZw x.fNow
theorem aFc:gG Tryz.prog 9 eS (fun s=>s.size≤140737488355328):=aPa Tryz.underlying9
theorem bVg:gG Tryz.prog 22 (fun l:(List ByteArray)=>[encL 1 eS l]) (fun l=>(∀a∈l,a.size≤140737488355328)∧l.length≤140737488355328):=b8 Tryz.underlying22 aZ gS (cFq aZ) aFc (fun _=>rfl)
theorem bZ:gG Tryz.prog 3 eI (fun n=> -9223372036854775808≤n∧n≤9223372036854775807):=bEh Tryz.underlying3
theorem bPo:gG Tryz.prog 156 iD wP:=fun H enc w sp held fuel cs x h hw=>by
 obtain ⟨a0,k0,r0⟩:=aI (s:=1) Tryz.underlying156 h hw 0 rfl aZ aFc;obtain ⟨a1,k1,r1⟩:=aI (s:=1) Tryz.underlying156 h hw 1 rfl aZ bZ;obtain ⟨a2,k2,r2⟩:=aI (s:=1) Tryz.underlying156 h hw 2 rfl aZ bZ;obtain ⟨a3,k3,r3⟩:=aI (s:=1) Tryz.underlying156 h hw 3 rfl aZ bZ;obtain ⟨a4,k4,r4⟩:=aI (s:=1) Tryz.underlying156 h hw 4 rfl aZ bZ;obtain ⟨a5,k5,r5⟩:=aI (s:=1) Tryz.underlying156 h hw 5 rfl aZ bZ;obtain ⟨a6,k6,r6⟩:=aI (s:=1) Tryz.underlying156 h hw 6 rfl aZ bZ;have hl:cs.length=7:=by obtain ⟨_,_,_,_,h1,_⟩:=DataW.trod_struct Tryz.underlying156 h;exact h1.trans aZ
 exact ⟨⟨a0,a1,a2,a3,a4,a5,a6⟩,⟨k0,k1,k2,k3,k4,k5,k6⟩,(RC.join (o:=0) (s:=1) r0 (RC.join (o:=1) (s:=1) r1 (RC.join (o:=2) (s:=1) r2 (RC.join (o:=3) (s:=1) r3 (RC.join (o:=4) (s:=1) r4 (RC.join (o:=5) (s:=1) r5 (RC.join (o:=6) (s:=1) r6 (RC.stop hl))))))))⟩
theorem bUa:gG Tryz.prog 23 (fun l:(List lL)=>[encL 7 iD l]) (fun l=>(∀a∈l,wP a)∧l.length≤140737488355328):=b8 Tryz.underlying23 aZ gS (cFq aZ) bPo (fun _=>rfl)
theorem aIp:gG Tryz.prog 152 cN aGm:=fun H enc w sp held fuel cs x h hw=>by
 obtain ⟨a0,k0,r0⟩:=aI (s:=1) Tryz.underlying152 h hw 0 rfl aZ bZ;obtain ⟨a1,k1,r1⟩:=aI (s:=1) Tryz.underlying152 h hw 1 rfl aZ bZ;have hl:cs.length=2:=by obtain ⟨_,_,_,_,h1,_⟩:=DataW.trod_struct Tryz.underlying152 h;exact h1.trans aZ
 exact ⟨⟨a0,a1⟩,⟨k0,k1⟩,(RC.join (o:=0) (s:=1) r0 (RC.join (o:=1) (s:=1) r1 (RC.stop hl)))⟩
theorem bPf:gG Tryz.prog 158 xB aIh:=fun H enc w sp held fuel cs x h hw=>by
 obtain ⟨a0,k0,r0⟩:=aI (s:=2) Tryz.underlying158 h hw 0 rfl aZ aIp;obtain ⟨a1,k1,r1⟩:=aI (s:=2) Tryz.underlying158 h hw 1 rfl aZ aIp;have hl:cs.length=4:=by obtain ⟨_,_,_,_,h1,_⟩:=DataW.trod_struct Tryz.underlying158 h;exact h1.trans aZ
 exact ⟨⟨a0,a1⟩,⟨k0,k1⟩,(RC.join (o:=0) (s:=2) r0 (RC.join (o:=2) (s:=2) r1 (RC.stop hl)))⟩
theorem bUm:gG Tryz.prog 24 (fun l:(List i9)=>[encL 4 xB l]) (fun l=>(∀a∈l,aIh a)∧l.length≤140737488355328):=b8 Tryz.underlying24 aZ gS (cFq aZ) bPf (fun _=>rfl)
theorem bQm:gG Tryz.prog 154 fC aBs:=fun H enc w sp held fuel cs x h hw=>by
 obtain ⟨a0,k0,r0⟩:=aI (s:=1) Tryz.underlying154 h hw 0 rfl aZ aFc;obtain ⟨a1,k1,r1⟩:=aI (s:=2) Tryz.underlying154 h hw 1 rfl aZ aIp;obtain ⟨a2,k2,r2⟩:=aI (s:=1) Tryz.underlying154 h hw 2 rfl aZ bZ;have hl:cs.length=4:=by obtain ⟨_,_,_,_,h1,_⟩:=DataW.trod_struct Tryz.underlying154 h;exact h1.trans aZ
 exact ⟨⟨a0,a1,a2⟩,⟨k0,k1,k2⟩,(RC.join (o:=0) (s:=1) r0 (RC.join (o:=1) (s:=2) r1 (RC.join (o:=3) (s:=1) r2 (RC.stop hl))))⟩
theorem bVi:gG Tryz.prog 25 (fun l:(List hZ)=>[encL 4 fC l]) (fun l=>(∀a∈l,aBs a)∧l.length≤140737488355328):=b8 Tryz.underlying25 aZ gS (cFq aZ) bQm (fun _=>rfl)
theorem bMc:gG Tryz.prog 182 rO aDs:=fun H enc w sp held fuel cs x h hw=>by
 obtain ⟨a0,k0,r0⟩:=aI (s:=1) Tryz.underlying182 h hw 0 rfl aZ bZ;obtain ⟨a1,k1,r1⟩:=aI (s:=1) Tryz.underlying182 h hw 1 rfl aZ bZ;obtain ⟨a2,k2,r2⟩:=aI (s:=1) Tryz.underlying182 h hw 2 rfl aZ bZ;have hl:cs.length=3:=by obtain ⟨_,_,_,_,h1,_⟩:=DataW.trod_struct Tryz.underlying182 h;exact h1.trans aZ
 exact ⟨⟨a0,a1,a2⟩,⟨k0,k1,k2⟩,(RC.join (o:=0) (s:=1) r0 (RC.join (o:=1) (s:=1) r1 (RC.join (o:=2) (s:=1) r2 (RC.stop hl))))⟩
theorem bRn:gG Tryz.prog 26 (fun l:(List l1)=>[encL 3 rO l]) (fun l=>(∀a∈l,aDs a)∧l.length≤140737488355328):=b8 Tryz.underlying26 aZ gS (cFq aZ) bMc (fun _=>rfl)
theorem bVc:gG Tryz.prog 28 aQ aCw:=fun H enc w sp held fuel cs x h hw=>by
 obtain ⟨a0,k0,r0⟩:=aI (s:=1) Tryz.underlying28 h hw 0 rfl aZ aFc;obtain ⟨a1,k1,r1⟩:=aI (s:=1) Tryz.underlying28 h hw 1 rfl aZ bVg;obtain ⟨a2,k2,r2⟩:=aI (s:=1) Tryz.underlying28 h hw 2 rfl aZ bUa;obtain ⟨a3,k3,r3⟩:=aI (s:=1) Tryz.underlying28 h hw 3 rfl aZ bUm;obtain ⟨a4,k4,r4⟩:=aI (s:=1) Tryz.underlying28 h hw 4 rfl aZ bVi;obtain ⟨a5,k5,r5⟩:=aI (s:=1) Tryz.underlying28 h hw 5 rfl aZ bRn;have hl:cs.length=6:=by obtain ⟨_,_,_,_,h1,_⟩:=DataW.trod_struct Tryz.underlying28 h;exact h1.trans aZ
 exact ⟨⟨a0,a1,a2,a3,a4,a5⟩,⟨k0,k1,k2,k3,k4,k5⟩,(RC.join (o:=0) (s:=1) r0 (RC.join (o:=1) (s:=1) r1 (RC.join (o:=2) (s:=1) r2 (RC.join (o:=3) (s:=1) r3 (RC.join (o:=4) (s:=1) r4 (RC.join (o:=5) (s:=1) r5 (RC.stop hl)))))))⟩
theorem bPi:gG Tryz.prog 144 cM wR:=fun H enc w sp held fuel cs x h hw=>by
 obtain ⟨a0,k0,r0⟩:=aI (s:=1) Tryz.underlying144 h hw 0 rfl aZ bZ;obtain ⟨a1,k1,r1⟩:=aI (s:=1) Tryz.underlying144 h hw 1 rfl aZ bZ;obtain ⟨a2,k2,r2⟩:=aI (s:=1) Tryz.underlying144 h hw 2 rfl aZ bZ;have hl:cs.length=3:=by obtain ⟨_,_,_,_,h1,_⟩:=DataW.trod_struct Tryz.underlying144 h;exact h1.trans aZ
 exact ⟨⟨a0,a1,a2⟩,⟨k0,k1,k2⟩,(RC.join (o:=0) (s:=1) r0 (RC.join (o:=1) (s:=1) r1 (RC.join (o:=2) (s:=1) r2 (RC.stop hl))))⟩
theorem aRx:gG Tryz.prog 67 (fun l:(List bF)=>[encL 3 cM l]) (fun l=>(∀a∈l,wR a)∧l.length≤140737488355328):=b8 Tryz.underlying67 aZ gS (cFq aZ) bPi (fun _=>rfl)
theorem bQr:gG Tryz.prog 131 bJ oA:=fun H enc w sp held fuel cs x h hw=>by
 obtain ⟨a0,k0,r0⟩:=aI (s:=1) Tryz.underlying131 h hw 0 rfl aZ bZ;obtain ⟨a1,k1,r1⟩:=aI (s:=1) Tryz.underlying131 h hw 1 rfl aZ bZ;have hl:cs.length=2:=by obtain ⟨_,_,_,_,h1,_⟩:=DataW.trod_struct Tryz.underlying131 h;exact h1.trans aZ
 exact ⟨⟨a0,a1⟩,⟨k0,k1⟩,(RC.join (o:=0) (s:=1) r0 (RC.join (o:=1) (s:=1) r1 (RC.stop hl)))⟩
theorem aOw:gG Tryz.prog 118 (fun l:(List aM)=>[encL 2 bJ l]) (fun l=>(∀a∈l,oA a)∧l.length≤140737488355328):=b8 Tryz.underlying118 aZ gS (cFq aZ) bQr (fun _=>rfl)
theorem pP:gG Tryz.prog 30 (fun l:(List Int)=>[encL 1 eI l]) (fun l=>(∀a∈l,-9223372036854775808≤a∧a≤9223372036854775807)∧l.length≤140737488355328):=b8 Tryz.underlying30 aZ gS (cFq aZ) bZ (fun _=>rfl)
theorem bNl:gG Tryz.prog 119 (fun l:(List cP)=>[encL 2 cN l]) (fun l=>(∀a∈l,aGm a)∧l.length≤140737488355328):=b8 Tryz.underlying119 aZ gS (cFq aZ) aIp (fun _=>rfl)
theorem bOy:gG Tryz.prog 121 bR aIs:=fun H enc w sp held fuel cs x h hw=>by
 obtain ⟨a0,k0,r0⟩:=aI (s:=1) Tryz.underlying121 h hw 0 rfl aZ aFc;obtain ⟨a1,k1,r1⟩:=aI (s:=1) Tryz.underlying121 h hw 1 rfl aZ bZ;obtain ⟨a2,k2,r2⟩:=aI (s:=1) Tryz.underlying121 h hw 2 rfl aZ bZ;obtain ⟨a3,k3,r3⟩:=aI (s:=1) Tryz.underlying121 h hw 3 rfl aZ aRx;obtain ⟨a4,k4,r4⟩:=aI (s:=1) Tryz.underlying121 h hw 4 rfl aZ aOw;obtain ⟨a5,k5,r5⟩:=aI (s:=1) Tryz.underlying121 h hw 5 rfl aZ pP;obtain ⟨a6,k6,r6⟩:=aI (s:=1) Tryz.underlying121 h hw 6 rfl aZ bZ;obtain ⟨a7,k7,r7⟩:=aI (s:=1) Tryz.underlying121 h hw 7 rfl aZ bZ;obtain ⟨a8,k8,r8⟩:=aI (s:=1) Tryz.underlying121 h hw 8 rfl aZ aRx;obtain ⟨a9,k9,r9⟩:=aI (s:=1) Tryz.underlying121 h hw 9 rfl aZ aOw;obtain ⟨a10,k10,r10⟩:=aI (s:=1) Tryz.underlying121 h hw 10 rfl aZ pP;obtain ⟨a11,k11,r11⟩:=aI (s:=1) Tryz.underlying121 h hw 11 rfl aZ aOw;obtain ⟨a12,k12,r12⟩:=aI (s:=1) Tryz.underlying121 h hw 12 rfl aZ pP;obtain ⟨a13,k13,r13⟩:=aI (s:=1) Tryz.underlying121 h hw 13 rfl aZ bNl;have hl:cs.length=14:=by obtain ⟨_,_,_,_,h1,_⟩:=DataW.trod_struct Tryz.underlying121 h;exact h1.trans aZ
 exact ⟨⟨a0,a1,a2,a3,a4,a5,a6,a7,a8,a9,a10,a11,a12,a13⟩,⟨k0,k1,k2,k3,k4,k5,k6,k7,k8,k9,k10,k11,k12,k13⟩,(RC.join (o:=0) (s:=1) r0 (RC.join (o:=1) (s:=1) r1 (RC.join (o:=2) (s:=1) r2 (RC.join (o:=3) (s:=1) r3 (RC.join (o:=4) (s:=1) r4 (RC.join (o:=5) (s:=1) r5 (RC.join (o:=6) (s:=1) r6 (RC.join (o:=7) (s:=1) r7 (RC.join (o:=8) (s:=1) r8 (RC.join (o:=9) (s:=1) r9 (RC.join (o:=10) (s:=1) r10 (RC.join (o:=11) (s:=1) r11 (RC.join (o:=12) (s:=1) r12 (RC.join (o:=13) (s:=1) r13 (RC.stop hl)))))))))))))))⟩
theorem bRw:gG Tryz.prog 29 (fun l:(List bI)=>[encL 14 bR l]) (fun l=>(∀a∈l,aIs a)∧l.length≤140737488355328):=b8 Tryz.underlying29 aZ gS (cFq aZ) bOy (fun _=>rfl)
theorem bUu:gG Tryz.prog 32 bW aIt:=fun H enc w sp held fuel cs x h hw=>by
 obtain ⟨a0,k0,r0⟩:=aI (s:=1) Tryz.underlying32 h hw 0 rfl aZ bRw;obtain ⟨a1,k1,r1⟩:=aI (s:=1) Tryz.underlying32 h hw 1 rfl aZ pP;obtain ⟨a2,k2,r2⟩:=aI (s:=1) Tryz.underlying32 h hw 2 rfl aZ pP;obtain ⟨a3,k3,r3⟩:=aI (s:=1) Tryz.underlying32 h hw 3 rfl aZ bZ;obtain ⟨a4,k4,r4⟩:=aI (s:=1) Tryz.underlying32 h hw 4 rfl aZ bZ;have hl:cs.length=5:=by obtain ⟨_,_,_,_,h1,_⟩:=DataW.trod_struct Tryz.underlying32 h;exact h1.trans aZ
 exact ⟨⟨a0,a1,a2,a3,a4⟩,⟨k0,k1,k2,k3,k4⟩,(RC.join (o:=0) (s:=1) r0 (RC.join (o:=1) (s:=1) r1 (RC.join (o:=2) (s:=1) r2 (RC.join (o:=3) (s:=1) r3 (RC.join (o:=4) (s:=1) r4 (RC.stop hl))))))⟩
theorem bPb:gG Tryz.prog 203 iX oM:=fun H enc w sp held fuel cs x h hw=>by
 obtain ⟨a0,k0,r0⟩:=aI (s:=1) Tryz.underlying203 h hw 0 rfl aZ bZ;obtain ⟨a1,k1,r1⟩:=aI (s:=1) Tryz.underlying203 h hw 1 rfl aZ bZ;obtain ⟨a2,k2,r2⟩:=aI (s:=1) Tryz.underlying203 h hw 2 rfl aZ bZ;have hl:cs.length=3:=by obtain ⟨_,_,_,_,h1,_⟩:=DataW.trod_struct Tryz.underlying203 h;exact h1.trans aZ
 exact ⟨⟨a0,a1,a2⟩,⟨k0,k1,k2⟩,(RC.join (o:=0) (s:=1) r0 (RC.join (o:=1) (s:=1) r1 (RC.join (o:=2) (s:=1) r2 (RC.stop hl))))⟩
theorem bTu:gG Tryz.prog 33 (fun l:(List d6)=>[encL 3 iX l]) (fun l=>(∀a∈l,oM a)∧l.length≤140737488355328):=b8 Tryz.underlying33 aZ gS (cFq aZ) bPb (fun _=>rfl)
theorem bRl:gG Tryz.prog 35 iT aRe:=fun H enc w sp held fuel cs x h hw=>by
 obtain ⟨a0,k0,r0⟩:=aI (s:=1) Tryz.underlying35 h hw 0 rfl aZ bTu;obtain ⟨a1,k1,r1⟩:=aI (s:=1) Tryz.underlying35 h hw 1 rfl aZ pP;have hl:cs.length=2:=by obtain ⟨_,_,_,_,h1,_⟩:=DataW.trod_struct Tryz.underlying35 h;exact h1.trans aZ
 exact ⟨⟨a0,a1⟩,⟨k0,k1⟩,(RC.join (o:=0) (s:=1) r0 (RC.join (o:=1) (s:=1) r1 (RC.stop hl)))⟩
theorem bKw:gG Tryz.prog 134 fJ rC:=fun H enc w sp held fuel cs x h hw=>by
 obtain ⟨a0,k0,r0⟩:=aI (s:=1) Tryz.underlying134 h hw 0 rfl aZ bZ;obtain ⟨a1,k1,r1⟩:=aI (s:=1) Tryz.underlying134 h hw 1 rfl aZ bZ;obtain ⟨a2,k2,r2⟩:=aI (s:=1) Tryz.underlying134 h hw 2 rfl aZ bZ;have hl:cs.length=3:=by obtain ⟨_,_,_,_,h1,_⟩:=DataW.trod_struct Tryz.underlying134 h;exact h1.trans aZ
 exact ⟨⟨a0,a1,a2⟩,⟨k0,k1,k2⟩,(RC.join (o:=0) (s:=1) r0 (RC.join (o:=1) (s:=1) r1 (RC.join (o:=2) (s:=1) r2 (RC.stop hl))))⟩
theorem bVp:gG Tryz.prog 36 (fun l:(List e5)=>[encL 3 fJ l]) (fun l=>(∀a∈l,rC a)∧l.length≤140737488355328):=b8 Tryz.underlying36 aZ gS (cFq aZ) bKw (fun _=>rfl)
theorem bPm:gG Tryz.prog 4 eB (fun _=>True):=bAj Tryz.underlying4
theorem bRd:gG Tryz.prog 37 (fun l:(List Bool)=>[encL 1 eB l]) (fun l=>(∀a∈l,True)∧l.length≤140737488355328):=b8 Tryz.underlying37 aZ gS (cFq aZ) bPm (fun _=>rfl)
theorem bUl:gG Tryz.prog 69 y9 bAa:=fun H enc w sp held fuel cs x h hw=>by
 obtain ⟨a0,k0,r0⟩:=aI (s:=1) Tryz.underlying69 h hw 0 rfl aZ aRx;obtain ⟨a1,k1,r1⟩:=aI (s:=1) Tryz.underlying69 h hw 1 rfl aZ bZ;obtain ⟨a2,k2,r2⟩:=aI (s:=1) Tryz.underlying69 h hw 2 rfl aZ bZ;have hl:cs.length=3:=by obtain ⟨_,_,_,_,h1,_⟩:=DataW.trod_struct Tryz.underlying69 h;exact h1.trans aZ
 exact ⟨⟨a0,a1,a2⟩,⟨k0,k1,k2⟩,(RC.join (o:=0) (s:=1) r0 (RC.join (o:=1) (s:=1) r1 (RC.join (o:=2) (s:=1) r2 (RC.stop hl))))⟩
theorem bUx:gG Tryz.prog 71 aNs aSf:=fun H enc w sp held fuel cs x h hw=>by
 obtain ⟨a0,k0,r0⟩:=aI (s:=1) Tryz.underlying71 h hw 0 rfl aZ bZ;obtain ⟨a1,k1,r1⟩:=aI (s:=1) Tryz.underlying71 h hw 1 rfl aZ aFc;obtain ⟨a2,k2,r2⟩:=aI (s:=1) Tryz.underlying71 h hw 2 rfl aZ bZ;obtain ⟨a3,k3,r3⟩:=aI (s:=1) Tryz.underlying71 h hw 3 rfl aZ bZ;obtain ⟨a4,k4,r4⟩:=aI (s:=1) Tryz.underlying71 h hw 4 rfl aZ bZ;obtain ⟨a5,k5,r5⟩:=aI (s:=1) Tryz.underlying71 h hw 5 rfl aZ bZ;obtain ⟨a6,k6,r6⟩:=aI (s:=1) Tryz.underlying71 h hw 6 rfl aZ bZ;obtain ⟨a7,k7,r7⟩:=aI (s:=1) Tryz.underlying71 h hw 7 rfl aZ bZ;obtain ⟨a8,k8,r8⟩:=aI (s:=1) Tryz.underlying71 h hw 8 rfl aZ bZ;obtain ⟨a9,k9,r9⟩:=aI (s:=1) Tryz.underlying71 h hw 9 rfl aZ bZ;have hl:cs.length=10:=by obtain ⟨_,_,_,_,h1,_⟩:=DataW.trod_struct Tryz.underlying71 h;exact h1.trans aZ
 exact ⟨⟨a0,a1,a2,a3,a4,a5,a6,a7,a8,a9⟩,⟨k0,k1,k2,k3,k4,k5,k6,k7,k8,k9⟩,(RC.join (o:=0) (s:=1) r0 (RC.join (o:=1) (s:=1) r1 (RC.join (o:=2) (s:=1) r2 (RC.join (o:=3) (s:=1) r3 (RC.join (o:=4) (s:=1) r4 (RC.join (o:=5) (s:=1) r5 (RC.join (o:=6) (s:=1) r6 (RC.join (o:=7) (s:=1) r7 (RC.join (o:=8) (s:=1) r8 (RC.join (o:=9) (s:=1) r9 (RC.stop hl)))))))))))⟩
theorem bRb:gG Tryz.prog 73 aGw aBo:=fun H enc w sp held fuel cs x h hw=>by
 obtain ⟨a0,k0,r0⟩:=aI (s:=1) Tryz.underlying73 h hw 0 rfl aZ bZ;obtain ⟨a1,k1,r1⟩:=aI (s:=1) Tryz.underlying73 h hw 1 rfl aZ bZ;obtain ⟨a2,k2,r2⟩:=aI (s:=1) Tryz.underlying73 h hw 2 rfl aZ bZ;have hl:cs.length=3:=by obtain ⟨_,_,_,_,h1,_⟩:=DataW.trod_struct Tryz.underlying73 h;exact h1.trans aZ
 exact ⟨⟨a0,a1,a2⟩,⟨k0,k1,k2⟩,(RC.join (o:=0) (s:=1) r0 (RC.join (o:=1) (s:=1) r1 (RC.join (o:=2) (s:=1) r2 (RC.stop hl))))⟩
theorem bNw:gG Tryz.prog 427 nZ wZ:=fun H enc w sp held fuel cs x h hw=>by
 obtain ⟨a0,k0,r0⟩:=aI (s:=1) Tryz.underlying427 h hw 0 rfl aZ bZ;obtain ⟨a1,k1,r1⟩:=aI (s:=1) Tryz.underlying427 h hw 1 rfl aZ bZ;obtain ⟨a2,k2,r2⟩:=aI (s:=1) Tryz.underlying427 h hw 2 rfl aZ bZ;obtain ⟨a3,k3,r3⟩:=aI (s:=1) Tryz.underlying427 h hw 3 rfl aZ bZ;have hl:cs.length=4:=by obtain ⟨_,_,_,_,h1,_⟩:=DataW.trod_struct Tryz.underlying427 h;exact h1.trans aZ
 exact ⟨⟨a0,a1,a2,a3⟩,⟨k0,k1,k2,k3⟩,(RC.join (o:=0) (s:=1) r0 (RC.join (o:=1) (s:=1) r1 (RC.join (o:=2) (s:=1) r2 (RC.join (o:=3) (s:=1) r3 (RC.stop hl)))))⟩
theorem bSp:gG Tryz.prog 74 (fun l:(List vO)=>[encL 4 nZ l]) (fun l=>(∀a∈l,wZ a)∧l.length≤140737488355328):=b8 Tryz.underlying74 aZ gS (cFq aZ) bNw (fun _=>rfl)
theorem bMd:gG Tryz.prog 429 rQ aDo:=fun H enc w sp held fuel cs x h hw=>by
 obtain ⟨a0,k0,r0⟩:=aI (s:=1) Tryz.underlying429 h hw 0 rfl aZ bZ;obtain ⟨a1,k1,r1⟩:=aI (s:=1) Tryz.underlying429 h hw 1 rfl aZ bZ;have hl:cs.length=2:=by obtain ⟨_,_,_,_,h1,_⟩:=DataW.trod_struct Tryz.underlying429 h;exact h1.trans aZ
 exact ⟨⟨a0,a1⟩,⟨k0,k1⟩,(RC.join (o:=0) (s:=1) r0 (RC.join (o:=1) (s:=1) r1 (RC.stop hl)))⟩
theorem bUp:gG Tryz.prog 75 (fun l:(List aEc)=>[encL 2 rQ l]) (fun l=>(∀a∈l,aDo a)∧l.length≤140737488355328):=b8 Tryz.underlying75 aZ gS (cFq aZ) bMd (fun _=>rfl)
theorem bVn:gG Tryz.prog 77 aBt yI:=fun H enc w sp held fuel cs x h hw=>by
 obtain ⟨a0,k0,r0⟩:=aI (s:=1) Tryz.underlying77 h hw 0 rfl aZ bZ;obtain ⟨a1,k1,r1⟩:=aI (s:=1) Tryz.underlying77 h hw 1 rfl aZ bZ;obtain ⟨a2,k2,r2⟩:=aI (s:=1) Tryz.underlying77 h hw 2 rfl aZ bSp;obtain ⟨a3,k3,r3⟩:=aI (s:=1) Tryz.underlying77 h hw 3 rfl aZ bUp;have hl:cs.length=4:=by obtain ⟨_,_,_,_,h1,_⟩:=DataW.trod_struct Tryz.underlying77 h;exact h1.trans aZ
 exact ⟨⟨a0,a1,a2,a3⟩,⟨k0,k1,k2,k3⟩,(RC.join (o:=0) (s:=1) r0 (RC.join (o:=1) (s:=1) r1 (RC.join (o:=2) (s:=1) r2 (RC.join (o:=3) (s:=1) r3 (RC.stop hl)))))⟩
theorem bKq:gG Tryz.prog 79 rF rX:=fun H enc w sp held fuel cs x h hw=>by
 obtain ⟨a0,k0,r0⟩:=aI (s:=1) Tryz.underlying79 h hw 0 rfl aZ bZ;obtain ⟨a1,k1,r1⟩:=aI (s:=1) Tryz.underlying79 h hw 1 rfl aZ bZ;obtain ⟨a2,k2,r2⟩:=aI (s:=1) Tryz.underlying79 h hw 2 rfl aZ bZ;obtain ⟨a3,k3,r3⟩:=aI (s:=1) Tryz.underlying79 h hw 3 rfl aZ bZ;have hl:cs.length=4:=by obtain ⟨_,_,_,_,h1,_⟩:=DataW.trod_struct Tryz.underlying79 h;exact h1.trans aZ
 exact ⟨⟨a0,a1,a2,a3⟩,⟨k0,k1,k2,k3⟩,(RC.join (o:=0) (s:=1) r0 (RC.join (o:=1) (s:=1) r1 (RC.join (o:=2) (s:=1) r2 (RC.join (o:=3) (s:=1) r3 (RC.stop hl)))))⟩
theorem bVx:gG Tryz.prog 81 bJm aYr:=fun H enc w sp held fuel cs x h hw=>by
 obtain ⟨a0,k0,r0⟩:=aI (s:=1) Tryz.underlying81 h hw 0 rfl aZ bPm;obtain ⟨a1,k1,r1⟩:=aI (s:=1) Tryz.underlying81 h hw 1 rfl aZ bZ;have hl:cs.length=2:=by obtain ⟨_,_,_,_,h1,_⟩:=DataW.trod_struct Tryz.underlying81 h;exact h1.trans aZ
 exact ⟨⟨a0,a1⟩,⟨k0,k1⟩,(RC.join (o:=0) (s:=1) r0 (RC.join (o:=1) (s:=1) r1 (RC.stop hl)))⟩
theorem bTi:gG Tryz.prog 83 bVt bJq:=fun H enc w sp held fuel cs x h hw=>by
 obtain ⟨a0,k0,r0⟩:=aI (s:=10) Tryz.underlying83 h hw 0 rfl aZ bUx;obtain ⟨a1,k1,r1⟩:=aI (s:=1) Tryz.underlying83 h hw 1 rfl aZ bZ;obtain ⟨a2,k2,r2⟩:=aI (s:=1) Tryz.underlying83 h hw 2 rfl aZ bZ;obtain ⟨a3,k3,r3⟩:=aI (s:=1) Tryz.underlying83 h hw 3 rfl aZ bZ;obtain ⟨a4,k4,r4⟩:=aI (s:=3) Tryz.underlying83 h hw 4 rfl aZ bRb;obtain ⟨a5,k5,r5⟩:=aI (s:=4) Tryz.underlying83 h hw 5 rfl aZ bVn;obtain ⟨a6,k6,r6⟩:=aI (s:=4) Tryz.underlying83 h hw 6 rfl aZ bKq;obtain ⟨a7,k7,r7⟩:=aI (s:=2) Tryz.underlying83 h hw 7 rfl aZ bVx;have hl:cs.length=26:=by obtain ⟨_,_,_,_,h1,_⟩:=DataW.trod_struct Tryz.underlying83 h;exact h1.trans aZ
 exact ⟨⟨a0,a1,a2,a3,a4,a5,a6,a7⟩,⟨k0,k1,k2,k3,k4,k5,k6,k7⟩,(RC.join (o:=0) (s:=10) r0 (RC.join (o:=10) (s:=1) r1 (RC.join (o:=11) (s:=1) r2 (RC.join (o:=12) (s:=1) r3 (RC.join (o:=13) (s:=3) r4 (RC.join (o:=16) (s:=4) r5 (RC.join (o:=20) (s:=4) r6 (RC.join (o:=24) (s:=2) r7 (RC.stop hl)))))))))⟩
theorem bRf:gG Tryz.prog 85 s8 aIa:=fun H enc w sp held fuel cs x h hw=>by
 obtain ⟨a0,k0,r0⟩:=aI (s:=3) Tryz.underlying85 h hw 0 rfl aZ bUl;obtain ⟨a1,k1,r1⟩:=aI (s:=1) Tryz.underlying85 h hw 1 rfl aZ bZ;obtain ⟨a2,k2,r2⟩:=aI (s:=1) Tryz.underlying85 h hw 2 rfl aZ bZ;obtain ⟨a3,k3,r3⟩:=aI (s:=1) Tryz.underlying85 h hw 3 rfl aZ bZ;obtain ⟨a4,k4,r4⟩:=aI (s:=26) Tryz.underlying85 h hw 4 rfl aZ bTi;have hl:cs.length=32:=by obtain ⟨_,_,_,_,h1,_⟩:=DataW.trod_struct Tryz.underlying85 h;exact h1.trans aZ
 exact ⟨⟨a0,a1,a2,a3,a4⟩,⟨k0,k1,k2,k3,k4⟩,(RC.join (o:=0) (s:=3) r0 (RC.join (o:=3) (s:=1) r1 (RC.join (o:=4) (s:=1) r2 (RC.join (o:=5) (s:=1) r3 (RC.join (o:=6) (s:=26) r4 (RC.stop hl))))))⟩
theorem bUn:gG Tryz.prog 38 (fun l:(List eX)=>[encL 32 s8 l]) (fun l=>(∀a∈l,aIa a)∧l.length≤140737488355328):=b8 Tryz.underlying38 aZ gS (cFq aZ) bRf (fun _=>rfl)
theorem bMi:gG Tryz.prog 107 jP aGz:=fun H enc w sp held fuel cs x h hw=>by
 obtain ⟨a0,k0,r0⟩:=aI (s:=1) Tryz.underlying107 h hw 0 rfl aZ bZ;obtain ⟨a1,k1,r1⟩:=aI (s:=1) Tryz.underlying107 h hw 1 rfl aZ bZ;obtain ⟨a2,k2,r2⟩:=aI (s:=1) Tryz.underlying107 h hw 2 rfl aZ bZ;obtain ⟨a3,k3,r3⟩:=aI (s:=1) Tryz.underlying107 h hw 3 rfl aZ bZ;obtain ⟨a4,k4,r4⟩:=aI (s:=1) Tryz.underlying107 h hw 4 rfl aZ aRx;obtain ⟨a5,k5,r5⟩:=aI (s:=1) Tryz.underlying107 h hw 5 rfl aZ pP;obtain ⟨a6,k6,r6⟩:=aI (s:=1) Tryz.underlying107 h hw 6 rfl aZ pP;obtain ⟨a7,k7,r7⟩:=aI (s:=1) Tryz.underlying107 h hw 7 rfl aZ pP;obtain ⟨a8,k8,r8⟩:=aI (s:=1) Tryz.underlying107 h hw 8 rfl aZ pP;obtain ⟨a9,k9,r9⟩:=aI (s:=1) Tryz.underlying107 h hw 9 rfl aZ bZ;obtain ⟨a10,k10,r10⟩:=aI (s:=1) Tryz.underlying107 h hw 10 rfl aZ bZ;obtain ⟨a11,k11,r11⟩:=aI (s:=1) Tryz.underlying107 h hw 11 rfl aZ bZ;obtain ⟨a12,k12,r12⟩:=aI (s:=1) Tryz.underlying107 h hw 12 rfl aZ bZ;obtain ⟨a13,k13,r13⟩:=aI (s:=1) Tryz.underlying107 h hw 13 rfl aZ bZ;have hl:cs.length=14:=by obtain ⟨_,_,_,_,h1,_⟩:=DataW.trod_struct Tryz.underlying107 h;exact h1.trans aZ
 exact ⟨⟨a0,a1,a2,a3,a4,a5,a6,a7,a8,a9,a10,a11,a12,a13⟩,⟨k0,k1,k2,k3,k4,k5,k6,k7,k8,k9,k10,k11,k12,k13⟩,(RC.join (o:=0) (s:=1) r0 (RC.join (o:=1) (s:=1) r1 (RC.join (o:=2) (s:=1) r2 (RC.join (o:=3) (s:=1) r3 (RC.join (o:=4) (s:=1) r4 (RC.join (o:=5) (s:=1) r5 (RC.join (o:=6) (s:=1) r6 (RC.join (o:=7) (s:=1) r7 (RC.join (o:=8) (s:=1) r8 (RC.join (o:=9) (s:=1) r9 (RC.join (o:=10) (s:=1) r10 (RC.join (o:=11) (s:=1) r11 (RC.join (o:=12) (s:=1) r12 (RC.join (o:=13) (s:=1) r13 (RC.stop hl)))))))))))))))⟩
theorem bUo:gG Tryz.prog 39 (fun l:(List g8)=>[encL 14 jP l]) (fun l=>(∀a∈l,aGz a)∧l.length≤140737488355328):=b8 Tryz.underlying39 aZ gS (cFq aZ) bMi (fun _=>rfl)
theorem bSk:gG Tryz.prog 40 (fun l:(List sC)=>[encL 4 rF l]) (fun l=>(∀a∈l,rX a)∧l.length≤140737488355328):=b8 Tryz.underlying40 aZ gS (cFq aZ) bKq (fun _=>rfl)
theorem bSv:gG Tryz.prog 42 z1 aBn:=fun H enc w sp held fuel cs x h hw=>by
 obtain ⟨a0,k0,r0⟩:=aI (s:=1) Tryz.underlying42 h hw 0 rfl aZ bUo;obtain ⟨a1,k1,r1⟩:=aI (s:=1) Tryz.underlying42 h hw 1 rfl aZ bSk;have hl:cs.length=2:=by obtain ⟨_,_,_,_,h1,_⟩:=DataW.trod_struct Tryz.underlying42 h;exact h1.trans aZ
 exact ⟨⟨a0,a1⟩,⟨k0,k1⟩,(RC.join (o:=0) (s:=1) r0 (RC.join (o:=1) (s:=1) r1 (RC.stop hl)))⟩
theorem bUe:gG Tryz.prog 90 aAc aCk:=fun H enc w sp held fuel cs x h hw=>by
 obtain ⟨a0,k0,r0⟩:=aI (s:=1) Tryz.underlying90 h hw 0 rfl aZ bZ;obtain ⟨a1,k1,r1⟩:=aI (s:=1) Tryz.underlying90 h hw 1 rfl aZ bZ;obtain ⟨a2,k2,r2⟩:=aI (s:=1) Tryz.underlying90 h hw 2 rfl aZ bZ;obtain ⟨a3,k3,r3⟩:=aI (s:=1) Tryz.underlying90 h hw 3 rfl aZ aFc;have hl:cs.length=4:=by obtain ⟨_,_,_,_,h1,_⟩:=DataW.trod_struct Tryz.underlying90 h;exact h1.trans aZ
 exact ⟨⟨a0,a1,a2,a3⟩,⟨k0,k1,k2,k3⟩,(RC.join (o:=0) (s:=1) r0 (RC.join (o:=1) (s:=1) r1 (RC.join (o:=2) (s:=1) r2 (RC.join (o:=3) (s:=1) r3 (RC.stop hl)))))⟩
theorem bVb:gG Tryz.prog 43 (fun l:(List wS)=>[encL 4 aAc l]) (fun l=>(∀a∈l,aCk a)∧l.length≤140737488355328):=b8 Tryz.underlying43 aZ gS (cFq aZ) bUe (fun _=>rfl)
theorem bPg:gG Tryz.prog 240 i6 aJh:=fun H enc w sp held fuel cs x h hw=>by
 obtain ⟨a0,k0,r0⟩:=aI (s:=1) Tryz.underlying240 h hw 0 rfl aZ bZ;obtain ⟨a1,k1,r1⟩:=aI (s:=1) Tryz.underlying240 h hw 1 rfl aZ bZ;obtain ⟨a2,k2,r2⟩:=aI (s:=1) Tryz.underlying240 h hw 2 rfl aZ bZ;have hl:cs.length=3:=by obtain ⟨_,_,_,_,h1,_⟩:=DataW.trod_struct Tryz.underlying240 h;exact h1.trans aZ
 exact ⟨⟨a0,a1,a2⟩,⟨k0,k1,k2⟩,(RC.join (o:=0) (s:=1) r0 (RC.join (o:=1) (s:=1) r1 (RC.join (o:=2) (s:=1) r2 (RC.stop hl))))⟩
theorem bSy:gG Tryz.prog 44 (fun l:(List fH)=>[encL 3 i6 l]) (fun l=>(∀a∈l,aJh a)∧l.length≤140737488355328):=b8 Tryz.underlying44 aZ gS (cFq aZ) bPg (fun _=>rfl)
theorem bPt:gG Tryz.prog 419 aSc aPv:=fun H enc w sp held fuel cs x h hw=>by
 obtain ⟨a0,k0,r0⟩:=aI (s:=1) Tryz.underlying419 h hw 0 rfl aZ bZ;obtain ⟨a1,k1,r1⟩:=aI (s:=1) Tryz.underlying419 h hw 1 rfl aZ bZ;obtain ⟨a2,k2,r2⟩:=aI (s:=1) Tryz.underlying419 h hw 2 rfl aZ bZ;obtain ⟨a3,k3,r3⟩:=aI (s:=1) Tryz.underlying419 h hw 3 rfl aZ aFc;have hl:cs.length=4:=by obtain ⟨_,_,_,_,h1,_⟩:=DataW.trod_struct Tryz.underlying419 h;exact h1.trans aZ
 exact ⟨⟨a0,a1,a2,a3⟩,⟨k0,k1,k2,k3⟩,(RC.join (o:=0) (s:=1) r0 (RC.join (o:=1) (s:=1) r1 (RC.join (o:=2) (s:=1) r2 (RC.join (o:=3) (s:=1) r3 (RC.stop hl)))))⟩
theorem bUk:gG Tryz.prog 45 (fun l:(List bDy)=>[encL 4 aSc l]) (fun l=>(∀a∈l,aPv a)∧l.length≤140737488355328):=b8 Tryz.underlying45 aZ gS (cFq aZ) bPt (fun _=>rfl)
theorem bLm:gG Tryz.prog 166 fI o5:=fun H enc w sp held fuel cs x h hw=>by
 obtain ⟨a0,k0,r0⟩:=aI (s:=1) Tryz.underlying166 h hw 0 rfl aZ bZ;obtain ⟨a1,k1,r1⟩:=aI (s:=1) Tryz.underlying166 h hw 1 rfl aZ bZ;obtain ⟨a2,k2,r2⟩:=aI (s:=1) Tryz.underlying166 h hw 2 rfl aZ aFc;obtain ⟨a3,k3,r3⟩:=aI (s:=1) Tryz.underlying166 h hw 3 rfl aZ aFc;have hl:cs.length=4:=by obtain ⟨_,_,_,_,h1,_⟩:=DataW.trod_struct Tryz.underlying166 h;exact h1.trans aZ
 exact ⟨⟨a0,a1,a2,a3⟩,⟨k0,k1,k2,k3⟩,(RC.join (o:=0) (s:=1) r0 (RC.join (o:=1) (s:=1) r1 (RC.join (o:=2) (s:=1) r2 (RC.join (o:=3) (s:=1) r3 (RC.stop hl)))))⟩
theorem bSj:gG Tryz.prog 46 (fun l:(List dV)=>[encL 4 fI l]) (fun l=>(∀a∈l,o5 a)∧l.length≤140737488355328):=b8 Tryz.underlying46 aZ gS (cFq aZ) bLm (fun _=>rfl)
theorem bPp:gG Tryz.prog 421 lJ nB:=fun H enc w sp held fuel cs x h hw=>by
 obtain ⟨a0,k0,r0⟩:=aI (s:=1) Tryz.underlying421 h hw 0 rfl aZ bZ;obtain ⟨a1,k1,r1⟩:=aI (s:=1) Tryz.underlying421 h hw 1 rfl aZ bZ;obtain ⟨a2,k2,r2⟩:=aI (s:=1) Tryz.underlying421 h hw 2 rfl aZ bZ;obtain ⟨a3,k3,r3⟩:=aI (s:=1) Tryz.underlying421 h hw 3 rfl aZ bZ;obtain ⟨a4,k4,r4⟩:=aI (s:=1) Tryz.underlying421 h hw 4 rfl aZ bZ;obtain ⟨a5,k5,r5⟩:=aI (s:=1) Tryz.underlying421 h hw 5 rfl aZ bPm;have hl:cs.length=6:=by obtain ⟨_,_,_,_,h1,_⟩:=DataW.trod_struct Tryz.underlying421 h;exact h1.trans aZ
 exact ⟨⟨a0,a1,a2,a3,a4,a5⟩,⟨k0,k1,k2,k3,k4,k5⟩,(RC.join (o:=0) (s:=1) r0 (RC.join (o:=1) (s:=1) r1 (RC.join (o:=2) (s:=1) r2 (RC.join (o:=3) (s:=1) r3 (RC.join (o:=4) (s:=1) r4 (RC.join (o:=5) (s:=1) r5 (RC.stop hl)))))))⟩
theorem bVs:gG Tryz.prog 47 (fun l:(List kJ)=>[encL 6 lJ l]) (fun l=>(∀a∈l,nB a)∧l.length≤140737488355328):=b8 Tryz.underlying47 aZ gS (cFq aZ) bPp (fun _=>rfl)
theorem bQh:gG Tryz.prog 423 aIj aIi:=fun H enc w sp held fuel cs x h hw=>by
 obtain ⟨a0,k0,r0⟩:=aI (s:=1) Tryz.underlying423 h hw 0 rfl aZ bZ;obtain ⟨a1,k1,r1⟩:=aI (s:=1) Tryz.underlying423 h hw 1 rfl aZ bZ;obtain ⟨a2,k2,r2⟩:=aI (s:=1) Tryz.underlying423 h hw 2 rfl aZ bZ;have hl:cs.length=3:=by obtain ⟨_,_,_,_,h1,_⟩:=DataW.trod_struct Tryz.underlying423 h;exact h1.trans aZ
 exact ⟨⟨a0,a1,a2⟩,⟨k0,k1,k2⟩,(RC.join (o:=0) (s:=1) r0 (RC.join (o:=1) (s:=1) r1 (RC.join (o:=2) (s:=1) r2 (RC.stop hl))))⟩
theorem bRq:gG Tryz.prog 48 (fun l:(List aNe)=>[encL 3 aIj l]) (fun l=>(∀a∈l,aIi a)∧l.length≤140737488355328):=b8 Tryz.underlying48 aZ gS (cFq aZ) bQh (fun _=>rfl)
theorem bNc:gG Tryz.prog 140 aKa aOh:=fun H enc w sp held fuel cs x h hw=>by
 obtain ⟨a0,k0,r0⟩:=aI (s:=1) Tryz.underlying140 h hw 0 rfl aZ bZ;obtain ⟨a1,k1,r1⟩:=aI (s:=1) Tryz.underlying140 h hw 1 rfl aZ bZ;obtain ⟨a2,k2,r2⟩:=aI (s:=1) Tryz.underlying140 h hw 2 rfl aZ bZ;obtain ⟨a3,k3,r3⟩:=aI (s:=1) Tryz.underlying140 h hw 3 rfl aZ bZ;have hl:cs.length=4:=by obtain ⟨_,_,_,_,h1,_⟩:=DataW.trod_struct Tryz.underlying140 h;exact h1.trans aZ
 exact ⟨⟨a0,a1,a2,a3⟩,⟨k0,k1,k2,k3⟩,(RC.join (o:=0) (s:=1) r0 (RC.join (o:=1) (s:=1) r1 (RC.join (o:=2) (s:=1) r2 (RC.join (o:=3) (s:=1) r3 (RC.stop hl)))))⟩
theorem bSo:gG Tryz.prog 86 (fun l:(List wK)=>[encL 4 aKa l]) (fun l=>(∀a∈l,aOh a)∧l.length≤140737488355328):=b8 Tryz.underlying86 aZ gS (cFq aZ) bNc (fun _=>rfl)
theorem bQz:gG Tryz.prog 88 yM aQa:=fun H enc w sp held fuel cs x h hw=>by
 obtain ⟨a0,k0,r0⟩:=aI (s:=1) Tryz.underlying88 h hw 0 rfl aZ bZ;obtain ⟨a1,k1,r1⟩:=aI (s:=1) Tryz.underlying88 h hw 1 rfl aZ bSo;have hl:cs.length=2:=by obtain ⟨_,_,_,_,h1,_⟩:=DataW.trod_struct Tryz.underlying88 h;exact h1.trans aZ
 exact ⟨⟨a0,a1⟩,⟨k0,k1⟩,(RC.join (o:=0) (s:=1) r0 (RC.join (o:=1) (s:=1) r1 (RC.stop hl)))⟩
theorem bTk:gG Tryz.prog 49 (fun l:(List eM)=>[encL 2 yM l]) (fun l=>(∀a∈l,aQa a)∧l.length≤140737488355328):=b8 Tryz.underlying49 aZ gS (cFq aZ) bQz (fun _=>rfl)
theorem bSz:gG Tryz.prog 50 (fun l:(List (List Int))=>[encL 1 (fun l:(List Int)=>[encL 1 eI l]) l]) (fun l=>(∀a∈l,(∀a1∈a,-9223372036854775808≤a1∧a1≤9223372036854775807)∧a.length≤140737488355328)∧l.length≤140737488355328):=b8 Tryz.underlying50 aZ gS (cFq aZ) pP (fun _=>rfl)
theorem bUb:gG Tryz.prog 52 aGk aCl:=fun H enc w sp held fuel cs x h hw=>by
 obtain ⟨a0,k0,r0⟩:=aI (s:=1) Tryz.underlying52 h hw 0 rfl aZ bSz;obtain ⟨a1,k1,r1⟩:=aI (s:=1) Tryz.underlying52 h hw 1 rfl aZ bZ;have hl:cs.length=2:=by obtain ⟨_,_,_,_,h1,_⟩:=DataW.trod_struct Tryz.underlying52 h;exact h1.trans aZ
 exact ⟨⟨a0,a1⟩,⟨k0,k1⟩,(RC.join (o:=0) (s:=1) r0 (RC.join (o:=1) (s:=1) r1 (RC.stop hl)))⟩
theorem bOg:gG Tryz.prog 425 rV tW:=fun H enc w sp held fuel cs x h hw=>by
 obtain ⟨a0,k0,r0⟩:=aI (s:=1) Tryz.underlying425 h hw 0 rfl aZ bZ;obtain ⟨a1,k1,r1⟩:=aI (s:=1) Tryz.underlying425 h hw 1 rfl aZ bZ;obtain ⟨a2,k2,r2⟩:=aI (s:=1) Tryz.underlying425 h hw 2 rfl aZ bZ;obtain ⟨a3,k3,r3⟩:=aI (s:=1) Tryz.underlying425 h hw 3 rfl aZ bZ;obtain ⟨a4,k4,r4⟩:=aI (s:=1) Tryz.underlying425 h hw 4 rfl aZ bZ;have hl:cs.length=5:=by obtain ⟨_,_,_,_,h1,_⟩:=DataW.trod_struct Tryz.underlying425 h;exact h1.trans aZ
 exact ⟨⟨a0,a1,a2,a3,a4⟩,⟨k0,k1,k2,k3,k4⟩,(RC.join (o:=0) (s:=1) r0 (RC.join (o:=1) (s:=1) r1 (RC.join (o:=2) (s:=1) r2 (RC.join (o:=3) (s:=1) r3 (RC.join (o:=4) (s:=1) r4 (RC.stop hl))))))⟩
theorem bRs:gG Tryz.prog 53 (fun l:(List qB)=>[encL 5 rV l]) (fun l=>(∀a∈l,tW a)∧l.length≤140737488355328):=b8 Tryz.underlying53 aZ gS (cFq aZ) bOg (fun _=>rfl)
theorem bRa:gG Tryz.prog 55 dM oN:=fun H enc w sp held fuel cs x h hw=>by
 obtain ⟨a0,k0,r0⟩:=aI (s:=6) Tryz.underlying55 h hw 0 rfl aZ bVc;obtain ⟨a1,k1,r1⟩:=aI (s:=5) Tryz.underlying55 h hw 1 rfl aZ bUu;obtain ⟨a2,k2,r2⟩:=aI (s:=2) Tryz.underlying55 h hw 2 rfl aZ bRl;obtain ⟨a3,k3,r3⟩:=aI (s:=1) Tryz.underlying55 h hw 3 rfl aZ bVp;obtain ⟨a4,k4,r4⟩:=aI (s:=1) Tryz.underlying55 h hw 4 rfl aZ bRd;obtain ⟨a5,k5,r5⟩:=aI (s:=1) Tryz.underlying55 h hw 5 rfl aZ bUn;obtain ⟨a6,k6,r6⟩:=aI (s:=2) Tryz.underlying55 h hw 6 rfl aZ bSv;obtain ⟨a7,k7,r7⟩:=aI (s:=1) Tryz.underlying55 h hw 7 rfl aZ bVb;obtain ⟨a8,k8,r8⟩:=aI (s:=1) Tryz.underlying55 h hw 8 rfl aZ bSy;obtain ⟨a9,k9,r9⟩:=aI (s:=1) Tryz.underlying55 h hw 9 rfl aZ bUk;obtain ⟨a10,k10,r10⟩:=aI (s:=1) Tryz.underlying55 h hw 10 rfl aZ bSj;obtain ⟨a11,k11,r11⟩:=aI (s:=1) Tryz.underlying55 h hw 11 rfl aZ bVs;obtain ⟨a12,k12,r12⟩:=aI (s:=1) Tryz.underlying55 h hw 12 rfl aZ bRq;obtain ⟨a13,k13,r13⟩:=aI (s:=1) Tryz.underlying55 h hw 13 rfl aZ bTk;obtain ⟨a14,k14,r14⟩:=aI (s:=2) Tryz.underlying55 h hw 14 rfl aZ bUb;obtain ⟨a15,k15,r15⟩:=aI (s:=1) Tryz.underlying55 h hw 15 rfl aZ pP;obtain ⟨a16,k16,r16⟩:=aI (s:=1) Tryz.underlying55 h hw 16 rfl aZ bRs;obtain ⟨a17,k17,r17⟩:=aI (s:=1) Tryz.underlying55 h hw 17 rfl aZ bZ;have hl:cs.length=30:=by obtain ⟨_,_,_,_,h1,_⟩:=DataW.trod_struct Tryz.underlying55 h;exact h1.trans aZ
 exact ⟨⟨a0,a1,a2,a3,a4,a5,a6,a7,a8,a9,a10,a11,a12,a13,a14,a15,a16,a17⟩,⟨k0,k1,k2,k3,k4,k5,k6,k7,k8,k9,k10,k11,k12,k13,k14,k15,k16,k17⟩,(RC.join (o:=0) (s:=6) r0 (RC.join (o:=6) (s:=5) r1 (RC.join (o:=11) (s:=2) r2 (RC.join (o:=13) (s:=1) r3 (RC.join (o:=14) (s:=1) r4 (RC.join (o:=15) (s:=1) r5 (RC.join (o:=16) (s:=2) r6 (RC.join (o:=18) (s:=1) r7 (RC.join (o:=19) (s:=1) r8 (RC.join (o:=20) (s:=1) r9 (RC.join (o:=21) (s:=1) r10 (RC.join (o:=22) (s:=1) r11 (RC.join (o:=23) (s:=1) r12 (RC.join (o:=24) (s:=1) r13 (RC.join (o:=25) (s:=2) r14 (RC.join (o:=27) (s:=1) r15 (RC.join (o:=28) (s:=1) r16 (RC.join (o:=29) (s:=1) r17 (RC.stop hl)))))))))))))))))))⟩
structure xO where
 fOccupied:(List Bool)
 fDetected:(List Int)
 fClosed:(List Bool)
 fClaimed:(List Bool)
 fPassed:(List Bool)
 fCalls:(List Int)
 fCancels:(List Int)
 deriving DecidableEq,Inhabited
def vD (x:xO):List DV:=[encL 1 eB x.fOccupied,encL 1 eI x.fDetected,encL 1 eB x.fClosed,encL 1 eB x.fClaimed,encL 1 eB x.fPassed,encL 1 eI x.fCalls,encL 1 eI x.fCancels]
attribute [go_sem] iD cN bFb bLw xB fC rO aQ cM aYd bFg bJ aLv aOu bR bW iX iT fJ y9 aNs aGw nZ rQ aBt rF bJm bVt s8 jP z1 aAc i6 aTu aSc fI lJ aIj aKa yM aGk rV dM vD
end Go.Sg
namespace Go.Sg
open Go.RowKit
structure bCq (w w':World) (g:Nat) (e:TypeId) (us:Array Value):Prop where
 os:w'.os=w.os
 tape:w'.tape=w.tape∧w.drawn≤w'.drawn
 output:w'.output=w.output
 size:w.heap.size≤w'.heap.size
 here:w'.heap[g]?=some (.cells us e (0,0))
 other: ∀k,k<w.heap.size→k≠g→w'.heap[k]?=w.heap[k]?
theorem aDr {P:Program} {f:FuncId} {O:aV} {s:Nat} {e:TypeId} {l l':List Int} (hs:O s=rowL e 1 eI l) (hlen:l'.length=l.length) (r:DV) (rv:Option Addr→Nat→Value) (hown:bX r=false)
  (hr: ∀w I A B c b,A s=some (B,c)→l6 B b→bN w I A r (rv b c))
  (H0:l=[]→ ∀b c w,Calls P f #[.slice b 0 c] w fun x w'=>x=.returned (rv b c)∧w'=w)
  (H: ∀w g c us,w.heap[g]?=some (.cells us e (0,0))→us.size=c→l.length≤c→c≤maxLen→0<l.length→(∀i,i<l.length→us[i]?=some (.int .i64 (l.getD i 0)))→
   Calls P f #[.slice (some ⟨g,0,none⟩) l.length c] w fun x w'=>x=.returned (rv (some ⟨g,0,none⟩) c)∧ ∃us',bCq w w' g e us'∧us'.size=us.size∧ ∀i,i<l'.length→us'[i]?=some (.int .i64 (l'.getD i 0))):
  lE P O f [.own s l.length] fun O' x=>O'=set O s (rowL e 1 eI l')∧x=r:=by
 intro w I A vals hO hl hv;obtain ⟨x,rfl⟩: ∃x,vals= #[x]:=by
  rcases vals with ⟨_|⟨x,_|⟨y,ys⟩⟩⟩
  ·simp at hl
  ·exact ⟨x,rfl⟩
  simp at hl
 have hx:=hv 0 _ x rfl rfl;cases hx with
 |own _ _ _ B c b hA hb=>
  have ho:=hO.own s;rw[hs] at ho;obtain ⟨B',c',q1,q2⟩:=ho;rw[hA] at q1;simp only[cAx,bZo] at q1;obtain ⟨rfl,rfl⟩:=q1;have hfr: ∀t,fN (O t) (set O s (rowL e 1 eI l') t):=fun t=>by
   rw[bC];split
   ·rename_i h;subst h;rw[hs];exact ⟨rfl,rfl,by simp[hlen]⟩
   exact fN.refl _
  have hout: ∀t,dH (O t)→dH (set O s (rowL e 1 eI l') t):=fun t ht=>by
   rw[bC];split
   ·rfl
   exact ht
  have hres: ∀w' I',qI w w' I' A r (rv b c):=fun w' I'=>by
   have:=hr w' I' A B c b hA hb;cases r<;>first|exact this|cases hown
  rcases bZl l.length with h0|h0
  ·obtain rfl:l=[]:=cEj h0;obtain rfl:l'=[]:=cEj (by simpa using hlen);refine (H0 rfl _ _ w).mono fun _ w' ⟨k1,k2⟩=>?_;subst k2;refine ⟨_,I,set O s (rowL e 1 eI []),r,k1,⟨fun t=>?_,hO.inj,hO.sep,hO.imm⟩,hfr,hout,e8.refl _ _ _,hres _ _,rfl,rfl⟩;rw[bC];split
   ·rename_i h;subst h;have:=hO.own t;rw[hs] at this;exact this
   exact hO.own t
  cases B with
  |none=>
   have:=q2.1;have:(List.map eI l).length=0:=by rw[this];rfl
   simp at this;subst this;simp at h0
  |some g=>
   obtain rfl:=iZ hb;obtain ⟨us,p1,p2,p3,p4,p5⟩:=q2;have hcont: ∀i,i<l.length→us[i]?=some (.int .i64 (l.getD i 0)):=fun i hi=>by
    have h1:(l.map eI)[i]?=some (eI (l.getD i 0)):=by simp[cEn hi]
    have hb:i*1+0<us.size:=by simp at p4;omega
    have:=((p5 i _ h1).2 0 _ _ rfl (cAt hb)).2;rw[show us[i]?=some (us[i*1+0]'hb) by rw[← cAt hb];simp];generalize us[i*1+0]'hb=u at this;cases this;rfl
   refine (H w g c us p1 aN (by simpa using p4) p3 h0 hcont).mono fun _ w' ⟨k1,us',k2,k3,k4⟩=>?_;obtain ⟨hgs,hgI⟩:=hO.sep s g c hA;have hrel: ∀B d x,bN w I B d x→bN w' I B d x:=fun B d x h=>h.mono fun k hk=>⟨hk,fun o=>dW (k2.other k (hO.imm k hk) fun e=>hgI (e▸hk)) o⟩;refine ⟨_,I,set O s (rowL e 1 eI l'),r,k1,⟨fun t=>?_,hO.inj,fun t k c' h=>⟨cDi (hO.sep t k c' h).1 k2.size,(hO.sep t k c' h).2⟩,hO.imm.step (fun k hk=>cDi (hO.imm k hk) k2.size) fun k hk=>⟨hk,k2.other k (hO.imm k hk) fun e=>hgI (e▸hk)⟩⟩,hfr,hout,
    ⟨k2.os,k2.tape,k2.output,k2.size,fun _ h=>h,fun k hk h=>⟨k2.other k hk fun e=>h s c (e▸hA),fun h=>h,h⟩,fun t k c' h _ ht=>⟨t,c',ht,h⟩,fun _ _=>rfl⟩,hres _ _,rfl,rfl⟩
   rw[bC];split
   ·rename_i h;subst h;refine ⟨some g,c,hA,us',k2.here,by omega,p3,by simp at p4 ⊢;omega,fun i y hy=>?_⟩;rw[cDj] at hy;cases hi:l'[i]? with
    |none=>rw[hi] at hy;cases hy
    |some a=>
     rw[hi] at hy;cases hy;have hlt:i<l'.length:=(cBz.1 hi).1;refine ⟨rfl,fun j d u hd hu=>?_⟩;cases j with
     |zero=>
      cases hd;have:=k4 i hlt;rw[show i*1+0=i by omega,this] at hu;cases hu;rw[cFk,hi];exact ⟨rfl,.v _ _⟩
     |succ j=>simp[eI] at hd
   rename_i hne;refine (hO.own t).keep (fun k c' h=>k2.other k (hO.sep t k c' h).1 fun e=>hne (hO.inj t s g c' c (e▸h) hA)) hrel
theorem uQ {off:Nat} (l:List Int) (c:Array Value) {i:Nat} (hi:i<l.length) (hc:i<c.size):(Sort.putCells (Value.int .i64) 0 l.toArray c)[i]?=some (.int .i64 (l.getD i 0)):=by
 unfold Sort.putCells;rw[Array.getElem?_mapIdx,cAt hc,cBj,if_pos ⟨bZt _,by simpa using hi⟩];simp[cFk,cEn hi,cFw,hi]
theorem aDx {w:World} {g:Nat} {us:Array Value} {e:TypeId} (h:w.heap[g]?=some (.cells us e (0,0))) (n:Nat) (l:List Int) (os:Array Obj):
  bCq w (Sort.grow (Sort.putRow (Value.int .i64) (Sort.ahead w n) g 0 l.toArray) os) g e (Sort.putCells (Value.int .i64) 0 l.toArray us):=by
 have hg:g<w.heap.size:=(cFj.1 h).1;have hsz:(w.heap.modify g (Sort.onCells (Sort.putCells (Value.int .i64) 0 l.toArray))).size=w.heap.size:=by simp
 have hh: ∀k,k<w.heap.size→(Sort.grow (Sort.putRow (Value.int .i64) (Sort.ahead w n) g 0 l.toArray) os).heap[k]?=(w.heap.modify g (Sort.onCells (Sort.putCells (Value.int .i64) 0 l.toArray)))[k]?:=fun k hk=>by
  show (w.heap.modify g (Sort.onCells (Sort.putCells (Value.int .i64) 0 l.toArray))++os)[k]?=_;rw[Array.getElem?_append_left (by rw[hsz];exact hk)]
 refine ⟨rfl,⟨rfl,Nat.le_add_right _ _⟩,rfl,by simp[Sort.ahead],?_,fun k hk hne=>?_⟩
 ·rw[hh g hg,Array.getElem?_modify,if_pos rfl,h];rfl
 rw[hh k hk,Array.getElem?_modify,if_neg (bZv hne)]
theorem aVl {w:World} {g:Nat} {us:Array Value} {e:TypeId} (h:w.heap[g]?=some (.cells us e (0,0))) (o:Nat):w.cell? ⟨g,o,none⟩=us[o]?∧w.frozen? ⟨g,o,none⟩=false:=by
 constructor
 ·unfold World.cell?;rw[h];rfl
 unfold World.frozen?;rw[h];simp
theorem aMv {w:World} {g c:Nat} {us:Array Value} {e:TypeId} {l:List Int} (h:w.heap[g]?=some (.cells us e (0,0))) (hc: ∀i,i<l.length→us[i]?=some (.int .i64 (l.getD i 0))):Sort.Holds (Value.int .i64) w g 0 l.toArray:=fun j hj=>by
 have hj':j<l.length:=by simpa using hj
 obtain ⟨k1,k2⟩:=aVl h (0+j);refine ⟨?_,k2⟩;rw[k1,cFa,hc j hj'];simp[cFk,cEn hj',cFw,hj']
abbrev srt (l:List Int):List Int:=l.mergeSort fun x y=>decide (x≤y)
theorem aCa {P:Program} {f:FuncId} {O:aV} {s:Nat} {e:TypeId} {l:List Int} (hs:O s=rowL e 1 eI l)
  (H0: ∀b c w,Calls P f #[.slice b 0 c] w fun x w'=>x=.returned (.tuple #[])∧w'=w)
  (H: ∀(blk off cap:Nat) (zs:List Int) (w:World),Sort.Holds (Value.int .i64) w blk off zs.toArray→blk<w.heap.size→zs.length<4611686018427387904→
   Calls P f #[.slice (some ⟨blk,off,none⟩) zs.length cap] w fun e w'=>e=.returned (.tuple #[])∧ ∃n os,w'=Sort.grow (Sort.putRow (Value.int .i64) (Sort.ahead w n) blk off (zs.mergeSort fun x y=>decide (x≤y)).toArray) os)
  (hb:l.length<4611686018427387904):
  lE P O f [.own s l.length] fun O' x=>O'=set O s (rowL e 1 eI (srt l))∧x=.tup []:=
 aDr hs b7 _ (fun _ _=>.tuple #[]) rfl (fun w I A B c _ _ _=>bN.tup A [] #[] rfl b7) (fun _=>H0) fun w g c us h1 h2 h3 h4 h5 h6=>
  (H g 0 c l w (aMv (c:=c) h1 h6) (cFj.1 h1).1 hb).mono fun _ w' ⟨k1,n,os,k2⟩=>⟨k1,_,k2▸aDx h1 n _ os,by simp[Sort.putCells],fun i hi=>uQ (off:=0) _ _ hi (by simp at hi;omega)⟩
theorem aEo {P:Program} {f:FuncId} {O:aV} {s:Nat} {e:TypeId} {l:List Int} (hs:O s=rowL e 1 eI l)
  (H0: ∀b c w,Calls P f #[.slice b 0 c] w fun x w'=>x=.returned (.slice b 0 c)∧w'=w)
  (H: ∀(blk off cap:Nat) (zs:List Int) (w:World),Sort.Holds (Value.int .i64) w blk off zs.toArray→zs.length≤9223372036854775807→zs.length≤cap→
   Calls P f #[.slice (some ⟨blk,off,none⟩) zs.length cap] w fun e w'=>e=.returned (.slice (some ⟨blk,off,none⟩) (Lib.compact zs).length cap)∧ ∃q,w'=Sort.putRow (Value.int .i64) (Sort.ahead w q) blk off (Lib.compact zs++List.replicate (zs.length-(Lib.compact zs).length) 0).toArray)
  (hle:(Lib.compact l).length≤l.length):
  lE P O f [.own s l.length] fun O' x=>O'=set O s (rowL e 1 eI (Lib.compact l++List.replicate (l.length-(Lib.compact l).length) 0))∧x=.own s (Lib.compact l).length:=
 aDr hs (by simp;omega) _ (fun b c=>.slice b (Lib.compact l).length c) rfl (fun w I A B c b h hb=>.own A s _ B c b h hb)
  (fun h b c w=>by
   have:(Lib.compact l).length=0:=by subst h;simpa using hle
   rw[this];exact H0 b c w) fun w g c us h1 h2 h3 h4 h5 h6=>
  (H g 0 c l w (aMv (c:=c) h1 h6) (cBc h3 h4) h3).mono fun _ w' ⟨k1,n,k2⟩=>⟨k1,_,by
   have:=aDx h1 n (Lib.compact l++List.replicate (l.length-(Lib.compact l).length) 0) #[];rw[Sort.grow_empty,← k2] at this;exact this,by simp[Sort.putCells],fun i hi=>uQ (off:=0) _ _ hi (by simp at hi;omega)⟩
end Go.Sg
namespace Go.Sg
attribute [go_sem] aCq
def iF {α:Type} [Inhabited α] (f:α→Bool) (l:List α) (i:Nat):Prop:= ∀j,j<i→f (l.getD j default)=true
section
variable {α:Type} [Inhabited α] {f:α→Bool} {l:List α} {i n:Nat}
theorem fZ (f:α→Bool) (l:List α):iF f l 0:=fun j h=>absurd h (cBg _)
theorem gA (h:iF f l i) (g:f (l.getD i default)=true):iF f l (i+1):=fun j hj=>by
 rcases cEs (cDn hj) with q|q
 ·exact h j q
 rw[q];exact g
theorem gD (h:i<l.length):l.getD i default∈l:=by rw[cFk,cEn h];exact cDh h
theorem bDq {x:α} (h:x∈l): ∃i,i<l.length∧l.getD i default=x:=by
 obtain ⟨i,hi,rfl⟩:=cAo.1 h;exact ⟨i,hi,by rw[cFk,cEn hi];rfl⟩
theorem mQ (h:iF f l i) (g:l.length≤i):l.all f=true:=by
 rw[cCk];intro x hx;obtain ⟨j,hj,rfl⟩:=bDq hx;exact h j (cDi hj g)
theorem oC (h:i<l.length) (g:f (l.getD i default)=false):l.all f=false:=by
 rw[← cDg,cCk];intro q;rw[q _ (gD h)] at g;cases g
theorem pF (h:l.all f=true) (g:i<l.length):f (l.getD i default)=true:=(cCk.1 h) _ (gD g)
def gK (f:Nat→Bool) (i:Nat):Prop:= ∀j,j<i→f j=true
theorem eD (f:Nat→Bool):gK f 0:=fun j h=>absurd h (cBg _)
theorem eA {f:Nat→Bool} (h:gK f i) (g:f i=true):gK f (i+1):=fun j hj=>by
 rcases cEs (cDn hj) with q|q
 ·exact h j q
 rw[q];exact g
theorem jT {f:Nat→Bool} (h:gK f i) (g:n≤i):(List.range n).all f=true:=by
 rw[cCk];intro x hx;exact h x (cDi (cCc.1 hx) g)
theorem kK {f:Nat→Bool} (h:i<n) (g:f i=false):(List.range n).all f=false:=by
 rw[← cDg,cCk];intro q;rw[q _ (cCc.2 h)] at g;cases g
theorem aFx {f:Nat→Bool} (h:(List.range n).all f=true) (g:i<n):f i=true:=(cCk.1 h) _ (cCc.2 g)
end
open Go.Proofs
attribute [go_sem] aCq
structure Pas where
 k:Int
 i:Int
 o:Int
 n:Int
instance:Inhabited Pas:=⟨⟨0,0,0,0⟩⟩
def qX:List Pas:=[⟨1,0,1,0⟩,⟨1,1,0,0⟩,⟨2,0,1,1⟩,⟨2,0,2,2⟩,⟨2,1,0,1⟩,⟨2,2,0,2⟩,⟨3,0,1,0⟩,⟨3,1,0,0⟩,⟨3,2,3,0⟩,⟨3,3,2,0⟩]
def cS (k i o:Int):Int×Bool:=
 if k=1∨k=3 then (0,decide ((min i o=0∧max i o=1)∨(k=3∧min i o=2∧max i o=3)))
 else if k=2∧min i o=0∧max i o=1 then (1,true) else if k=2∧min i o=0∧max i o=2 then (2,true) else (0,false)
def lY:List Pas→Int→Int→Int→Int×Bool
 | [],_,_,_=>(0,false)
 |p::l,k,i,o=>if p.k=k∧p.i=i∧p.o=o then (p.n,true) else lY l k i o
theorem bVo (i o:Int):cS 1 i o=(0,decide (min i o=0∧max i o=1)):=by
 unfold cS;rw[if_pos (.inl rfl)];congr 1;rw[cAd];omega
theorem bKc (i o:Int):cS 2 i o=if min i o=0∧max i o=1 then (1,true) else if min i o=0∧max i o=2 then (2,true) else (0,false):=by
 unfold cS;rw[if_neg aN];simp
theorem bUc (i o:Int):cS 3 i o=(0,decide ((min i o=0∧max i o=1)∨(min i o=2∧max i o=3))):=by
 unfold cS;rw[if_pos (.inr rfl)];congr 1;rw[cAd];omega
theorem bUj {k:Int} (h1:k≠1) (h2:k≠2) (h3:k≠3) (i o:Int):cS k i o=(0,false):=by
 unfold cS;rw[if_neg aN,if_neg aN,if_neg aN]
theorem uI (k i o:Int):lY qX k i o=cS k i o:=by
 have hk:k=1∨k=2∨k=3∨(k≠1∧k≠2∧k≠3):=by omega
 rcases hk with rfl|rfl|rfl|⟨h1,h2,h3⟩
 ·have:lY qX 1 i o=if (0:Int)=i∧(1:Int)=o then (0,true) else if (1:Int)=i∧(0:Int)=o then (0,true) else (0,false):=by
   simp[lY,qX]
  rw[this,bVo];split
  ·rw[cFr aN]
  split
  ·rw[cFr aN]
  rw[cFs aN]
 ·have:lY qX 2 i o=if (0:Int)=i∧(1:Int)=o then (1,true) else if (0:Int)=i∧(2:Int)=o then (2,true) else if (1:Int)=i∧(0:Int)=o then (1,true) else if (2:Int)=i∧(0:Int)=o then (2,true) else (0,false):=by
   simp[lY,qX]
  rw[this,bKc]
  repeat' split
  all_goals first|rfl|(exfalso;omega)
 ·have:lY qX 3 i o=if (0:Int)=i∧(1:Int)=o then (0,true) else if (1:Int)=i∧(0:Int)=o then (0,true) else if (2:Int)=i∧(3:Int)=o then (0,true) else if (3:Int)=i∧(2:Int)=o then (0,true) else (0,false):=by
   simp[lY,qX]
  rw[this,bUc]
  repeat' split
  all_goals first|rw[cFr aN]|rw[cFs aN]
 rw[bUj h1 h2 h3];simp[lY,qX,bZv h1,bZv h2,bZv h3]
theorem mnI (i o:Int):(if o<i then o else i)=min i o:=by rw[Int.min_def];split<;>split<;>omega
theorem mxI (i o:Int):(if i<o then o else i)=max i o:=by rw[Int.max_def];split<;>split<;>omega
def fS (k:Int):Int:=if k=1 then 2 else if k=2 then 3 else if k=3 then 4 else 0
abbrev x8 (l:List Int):DV:=rowL 3 1 eI l
def yU (l:List Pas) (k i:Int):List Int:=(l.filter fun p=>decide (p.k=k∧p.i=i)).map (·.o)
def dK (k i:Int):List Int:=yU qX k i
def yT (k i:Int) (n:Nat):List Int:=((List.range n).filter fun s=>(cS k i (s:Nat)).2).map fun s=>((s:Nat):Int)
theorem sB (k i:Int) (n:Nat):yT k i (n+1)=yT k i n++if (cS k i (n:Nat)).2=true then [(n:Int)] else []:=by
 unfold yT;rw[cBy,cDu,cAl];congr 1;cases h:(cS k i (n:Nat)).2<;>simp[cFc,h]
theorem bJi (k i:Int):yT k i 4=dK k i:=by
 rw[sB,sB,sB,sB];have e0:yT k i 0=[]:=rfl;rw[e0];have hk:k=1∨k=2∨k=3∨(k≠1∧k≠2∧k≠3):=by omega
 have hi:i=0∨i=1∨i=2∨i=3∨(i≠0∧i≠1∧i≠2∧i≠3):=by omega
 rcases hk with rfl|rfl|rfl|⟨h1,h2,h3⟩
 ·rcases hi with rfl|rfl|rfl|rfl|⟨q0,q1,q2,q3⟩<;>first|rfl|(simp[← uI,lY,dK,yU,qX,bZv q0,bZv q1,bZv q2,bZv q3])
 ·rcases hi with rfl|rfl|rfl|rfl|⟨q0,q1,q2,q3⟩<;>first|rfl|(simp[← uI,lY,dK,yU,qX,bZv q0,bZv q1,bZv q2,bZv q3])
 ·rcases hi with rfl|rfl|rfl|rfl|⟨q0,q1,q2,q3⟩<;>first|rfl|(simp[← uI,lY,dK,yU,qX,bZv q0,bZv q1,bZv q2,bZv q3])
 simp[← uI,lY,dK,yU,qX,bZv h1,bZv h2,bZv h3]
theorem jZ (O:aV) (k i o:Int):bB Tryz.prog O 258 [vi k,vi i,vi o] (.tup [vi (cS k i o).1,vb (cS k i o).2]):=by
 refine dD Tryz.func258 ?_;refine aA fun _ Z0=>aU [0,1,2] aZ ?_;simp (disch:=omega) only[go_sem,seval,mnI,mxI]
 repeat refine bZh bM ?_
 refine Z0 _ (aA fun _ Z1=>aU [0,1,2] aZ ?_);simp (disch:=omega) only[go_sem,seval,mnI,mxI]
 repeat refine bZh bM ?_
 refine Z1 _ (aA fun _ Z2=>aU [0,1,2,8] aZ ?_);simp (disch:=omega) only[go_sem,seval,mnI,mxI]
 repeat refine bZh bM ?_
 refine Z2 _ (aA fun _ Z3=>aA fun _ Z4=>aU [0,8,9] aZ ?_);simp (disch:=omega) only[go_sem,seval,mnI,mxI]
 repeat refine bZh bM ?_
 refine Z4 _ (aL (fun c0=>?_) fun c0=>?_)
 ·refine aA fun _ Z5=>aU [0,8,9] aZ ?_;simp (disch:=omega) only[go_sem,seval,mnI,mxI]
  repeat refine bZh bM ?_
  refine Z5 _ (aG (oU rfl (by simp (disch:=omega) only[go_sem,seval,mnI,mxI]) (.cons ?_ (.cons ?_ .nil))))
  ·exact kD (by simp (disch:=omega) only[go_sem,seval,mnI,mxI]<;>((unfold cS;rw[if_pos c0]))) rfl rfl
  exact kD (by simp (disch:=omega) only[go_sem,seval,mnI,mxI]<;>((unfold cS;rw[if_pos c0];refine congrArg vb ?_;rw[cBk];simp;omega))) rfl rfl
 refine aC (Z3 _ (aA fun _ Z6=>aA fun _ Z7=>aU [0,8,9] aZ ?_));simp (disch:=omega) only[go_sem,seval,mnI,mxI]
 repeat refine bZh bM ?_
 refine Z7 _ (aL (fun c1=>?_) fun c1=>?_)
 ·refine aA fun _ Z8=>aU [] aZ ?_;simp (disch:=omega) only[go_sem,seval,mnI,mxI]
  repeat refine bZh bM ?_
  refine Z8 _ (aG (oU rfl (by simp (disch:=omega) only[go_sem,seval,mnI,mxI]) (.cons ?_ (.cons ?_ .nil))))
  ·exact kD (by simp (disch:=omega) only[go_sem,seval,mnI,mxI]<;>((unfold cS;rw[if_neg aN,if_pos aN]))) rfl rfl
  exact kD (by simp (disch:=omega) only[go_sem,seval,mnI,mxI]<;>((unfold cS;rw[if_neg aN,if_pos aN]))) rfl rfl
 refine aC (Z6 _ (aA fun _ Z9=>aA fun _ Z10=>aU [0,8,9] aZ ?_));simp (disch:=omega) only[go_sem,seval,mnI,mxI]
 repeat refine bZh bM ?_
 refine Z10 _ (aL (fun c2=>?_) fun c2=>?_)
 ·refine aA fun _ Z11=>aU [] aZ ?_;simp (disch:=omega) only[go_sem,seval,mnI,mxI]
  repeat refine bZh bM ?_
  refine Z11 _ (aG (oU rfl (by simp (disch:=omega) only[go_sem,seval,mnI,mxI]) (.cons ?_ (.cons ?_ .nil))))
  ·exact kD (by simp (disch:=omega) only[go_sem,seval,mnI,mxI]<;>((unfold cS;rw[if_neg aN,if_neg aN,if_pos aN]))) rfl rfl
  exact kD (by simp (disch:=omega) only[go_sem,seval,mnI,mxI]<;>((unfold cS;rw[if_neg aN,if_neg aN,if_pos aN]))) rfl rfl
 refine aC (Z9 _ (aA fun _ Z12=>aU [] aZ ?_));simp (disch:=omega) only[go_sem,seval,mnI,mxI]
 repeat refine bZh bM ?_
 refine Z12 _ (aG (oU rfl (by simp (disch:=omega) only[go_sem,seval,mnI,mxI]) (.cons ?_ (.cons ?_ .nil))))
 ·exact kD (by simp (disch:=omega) only[go_sem,seval,mnI,mxI]<;>((unfold cS;rw[if_neg aN,if_neg aN,if_neg aN]))) rfl rfl
 exact kD (by simp (disch:=omega) only[go_sem,seval,mnI,mxI]<;>((unfold cS;rw[if_neg aN,if_neg aN,if_neg aN]))) rfl rfl
theorem rM (O:aV) (k:Int):bB Tryz.prog O 177 [vi k] (vi (fS k)):=by
 refine dD Tryz.func177 ?_;refine aB [0] ?_;refine aA fun _ Z1=>aB [0] ?_;refine aD (aB [3] ?_);refine aL (fun c0=>?_) fun c0=>?_
 ·refine aB [] ?_;refine aG (bU 2 ?_);exact cG.is (by simp (disch:=omega) only[go_sem,seval]<;>(first|rfl|(unfold fS;simp_all))) rfl rfl
 refine aB [3] ?_;refine aL (fun c1=>?_) fun c1=>?_
 ·refine aB [] ?_;refine aG (bU 2 ?_);exact cG.is (by simp (disch:=omega) only[go_sem,seval]<;>(first|rfl|(unfold fS;simp_all))) rfl rfl
 refine aB [3] ?_;refine aL (fun c2=>?_) fun c2=>?_
 ·refine aB [] ?_;refine aG (bU 2 ?_);exact cG.is (by simp (disch:=omega) only[go_sem,seval]<;>(first|rfl|(unfold fS;simp_all))) rfl rfl
 refine aC (Z1 _ (aB [] ?_));refine aG (bU 2 ?_);exact cG.is (by simp (disch:=omega) only[go_sem,seval]<;>(first|rfl|(unfold fS;simp_all))) rfl rfl
theorem aEp (O:aV) (k i:Int):bB Tryz.prog O 189 [vi k,vi i] (bT (dK k i)):=by
 rw[← bJi];refine dD Tryz.func189 ?_;refine aB [0,1] ?_;refine aB [0,1] ?_;refine aA fun _ Z2=>aB [0,1,5] ?_;refine aD (dF 5 3 1 eI rfl rfl ?_);refine aT [0,1,5,6] (fun n ρ=> ∃j,n=4-j∧(j≤4)∧ρ=cO O [(0,vi k),(1,vi i),(5,x8 (yT k i j)),(6,vi (j:Nat))]) _ ⟨0,rfl,?_,?_⟩ ?_
 ·exact bE
 ·exact b9
 rintro n ρ ⟨j,rfl,l0_0,rfl⟩ _ Z4;have hfl:(yT k i j).length≤4:=by
   unfold yT;rw[cAr];exact cBc (cCf _ _) (by rw[cEv];omega)
 refine aA fun _ Z5=>aB [0,1,5,6] ?_;refine aL (fun c0=>?_) fun c0=>?_
 ·refine aC (Z5 _ (aA fun _ Z7=>aD (aA fun _ Z8=>bL [0,1,5,6] ?_)));refine fF (jZ _ k i (j:Nat)) ?_;refine Z8 _ (aB [0,1,5,6,8] ?_);refine aL (fun c1=>?_) fun c1=>?_
  ·refine bA [0,1,5,6] ?_;refine Z7 _ (bA [0,1,5,6] ?_);refine Z4 _ _ bE ⟨j+1,rfl,bE,?_⟩;simp (disch:=omega) only[go_sem,seval]<;>(rw[sB,if_pos c1];first|rfl|simp)
  refine aC (Z7 _ (bA [0,1,5,6] ?_));refine Z4 _ _ bE ⟨j+1,rfl,bE,?_⟩;simp (disch:=omega) only[go_sem,seval]<;>(rw[sB,c1,if_neg gS,cEw];rfl)
 refine aY (Z2 _ (aA fun _ Z10=>cB 5 _ rfl rfl ?_));refine bA [5] ?_;refine Z10 _ (aG (bU 4 ?_));exact cG.encL rfl (by rw[show j=4 by omega])
theorem roC {P:Program} {ρ:aV} {a:Nat} {t:TypeId} {cs ds:List DV} (h:ρ a=.bx cs) (he:cs=ds) (hl:cW P t=some (some ds.length)) (hs:nM (· +100000) ds=ds):aHa P ρ (.cell a t) (.agg ds):=by
 subst he;refine ⟨cs,h,.inl ⟨hl,?_⟩⟩;have:sh (.agg cs)=.agg cs:=congrArg DV.agg hs;rw[this];exact cF.refl _
theorem lZ {P:Program} {ρ:aV} {fn:Func} {O:aV} {cs:List DV} (a t:Nat) (hf:fn.results= #[.cell a t]) (h1:hi ρ=g7 O) (h2:ρ a=.bx cs) (h3:cW P t=some (some cs.length)) (h4:sh (.agg cs)=.agg cs):aDl P fn O (fun O' r'=>O'=O∧r'=.agg cs) .ret ρ:=
 aAi h1 (by rw[hf];exact ⟨rfl,cs,h2,.inl ⟨h3,by rw[h4];exact cF.refl _⟩⟩)
abbrev bPq (l:List i9):DV:=encL 4 xB l
abbrev mW (l:List hZ):DV:=encL 4 fC l
abbrev lD (l:List lL):DV:=encL 7 iD l
abbrev bBf (l:List l1):DV:=encL 3 rO l
abbrev eV (l:List ByteArray):DV:=encL 1 eS l
def lN (l:aE):List ByteArray:=l.fElements.map (·.fName)
def mJ (l:aE):List ByteArray:=l.fSignals.map (·.fName)
def kZ (l:aE):List (List ByteArray):=[[l.fName],l.fSections,lN l,mJ l]
structure hM (l:aE):Prop where
 sec:l.fSections.length≤60
 el:l.fElements.length≤60
 jo:l.fJoints.length≤100
 sg:l.fSignals.length≤60
 bl:l.fBalises.length≤60
 nm: ∀n∈kZ l,∀x∈n,x.size≤140737488355328
def E0:cP:=⟨0,0⟩
def iG:List i9→cP→cP×Bool
 | [],_=>(E0,false)
 |j::l,e=>if j.fA=e then (j.fB,true) else if j.fB=e then (j.fA,true) else iG l e
abbrev aK (l:aE) (e:cP):cP×Bool:=iG l.fJoints e
def wH:List hZ→cP→Nat→Int
 | [],_,_=> -1
 |s::l,e,n=>if s.fAt=e then (n:Int) else wH l e (n+1)
abbrev sL (l:aE) (e:cP):Int:=wH l.fSignals e 0
abbrev eP (l:aE) (i:Nat):lL:=l.fElements.getD i default
def aPc (l:aE) (n:Nat):List Int:=((List.range n).filter fun i=>decide ((eP l i).fKind=2)).map fun i=>((i:Nat):Int)
def hX (l:aE):List Int:=aPc l l.fElements.length
def aVv (l:aE) (s:Int) (n:Nat):List Int:=((List.range n).filter fun i=>decide ((eP l i).fSection=s)).map fun i=>((i:Nat):Int)
def bLn (l:aE) (s:Int):List Int:=if 0≤s∧s<(l.fSections.length:Int) then aVv l s l.fElements.length else []
def cJ (l:aE) (e:Int):Int:=if 0≤e∧e<(l.fElements.length:Int) then (eP l e.toNat).fSection else -1
theorem aWn (l:aE) (n:Nat):aPc l (n+1)=aPc l n++if (eP l n).fKind=2 then [(n:Int)] else []:=by
 unfold aPc;rw[cBy,cDu,cAl];congr 1;by_cases h:(eP l n).fKind=2
 ·rw[if_pos h,List.filter_cons_of_pos (by simpa using h)];rfl
 rw[if_neg h,List.filter_cons_of_neg (by simpa using h)];rfl
theorem bBg (l:aE) (s:Int) (n:Nat):aVv l s (n+1)=aVv l s n++if (eP l n).fSection=s then [(n:Int)] else []:=by
 unfold aVv;rw[cBy,cDu,cAl];congr 1;by_cases h:(eP l n).fSection=s
 ·rw[if_pos h,List.filter_cons_of_pos (by simpa using h)];rfl
 rw[if_neg h,List.filter_cons_of_neg (by simpa using h)];rfl
def o8 (l:aE) (s:Int) (n:Nat):List Int:=if 0≤s∧s<(l.fSections.length:Int) then aVv l s n else []
theorem bQa {l:aE} {s:Int} {n:Nat} (h:(eP l n).fSection=s) (h2:0≤s) (h3:s<(l.fSections.length:Int)):o8 l s (n+1)=o8 l s n++[(n:Int)]:=by
 unfold o8;rw[if_pos ⟨h2,h3⟩,if_pos ⟨h2,h3⟩,bBg,if_pos h]
theorem bQj {l:aE} {s:Int} {n:Nat} (h:(eP l n).fSection=s→ ¬(0≤s∧s<(l.fSections.length:Int))):o8 l s (n+1)=o8 l s n:=by
 unfold o8;split
 ·rename_i g;rw[bBg,if_neg fun e=>h e g,cEw]
 rfl
theorem bDk (l:aE) (s:Int) (n:Nat):(o8 l s n).length≤n:=by
 unfold o8;split
 ·unfold aVv;rw[cAr];exact cBc (cCf _ _) b7
 simp
theorem aKw (l:aE) (n:Nat):(aPc l n).length≤n:=by
 unfold aPc;rw[cAr];exact cBc (cCf _ _) b7
theorem gF (O:aV) (l:aE) (e:cP):bB Tryz.prog O 103 [.agg (aQ l),.agg (cN e)] (.tup [.agg (cN (aK l e).1),vb (aK l e).2]):=by
 refine aW 0 rfl (.agg (d:=bPq l.fJoints) (by simp[aQ]) (.sl _ _ _)) fun hj=>?_;refine dD Tryz.func103 ?_;refine aB [0,1] ?_;refine aA fun _ Z1=>aB [2,3,4] ?_;refine aD (aT [2,3,4,9,10,11] (fun n ρ=> ∃i,n=l.fJoints.length-i∧(i≤l.fJoints.length)∧(iG l.fJoints e=iG (l.fJoints.drop i) e)∧ρ=cO O [(2,.bx (aQ l)),(3,.bx (cN e)),(4,.bx (cN E0)),(9,bPq l.fJoints),(10,vi (l.fJoints.length:Nat)),(11,vi (i:Nat))]) _ ⟨0,rfl,?_,?_,?_⟩ ?_)
 ·exact bE
 ·rfl
 ·exact b9
 rintro n ρ ⟨i,rfl,l0_0,l0_1,rfl⟩ _ Z3;refine aB [2,3,4,8,9,10,11] ?_;refine aA fun _ Z5=>aL (fun c0=>?_) fun c0=>?_
 ·refine aC (Z5 _ (aA fun _ Z6=>aD (aB [2,3,4,8,9,10,11] ?_)));refine aA fun _ Z8=>aB [2,3,4,7,8,9,10,11] ?_;refine aL (fun c1=>?_) fun c1=>?_
  ·refine aB [4,7] ?_;refine aG (yJ (.cons ?_ (.cons ?_ .nil)))
   ·exact roC (by simp (disch:=omega) only[go_sem,seval]<;>rfl) (by simp (disch:=omega) only[go_sem,seval]<;>((rw[aK,l0_1,bK default c0,iG,if_pos ((fT _ _).2 (by simpa using c1))]))) aZ (by first|rfl|(simp (disch:=omega) only[go_sem,seval]))
   exact kD (by simp (disch:=omega) only[go_sem,seval]<;>((rw[aK,l0_1,bK default c0,iG,if_pos ((fT _ _).2 (by simpa using c1))]))) rfl rfl
  refine aC (Z8 _ (aB [2,3,4,7,8,9,10,11] ?_));refine aL (fun c2=>?_) fun c2=>?_
  ·refine aB [4,7] ?_;refine aG (yJ (.cons ?_ (.cons ?_ .nil)))
   ·exact roC (by simp (disch:=omega) only[go_sem,seval]<;>rfl) (by simp (disch:=omega) only[go_sem,seval]<;>((rw[aK,l0_1,bK default c0,iG,if_neg (fun h=>by rw[fT] at h;simp_all),if_pos ((fT _ _).2 (by simpa using c2))]))) aZ (by first|rfl|(simp (disch:=omega) only[go_sem,seval]))
   exact kD (by simp (disch:=omega) only[go_sem,seval]<;>((rw[aK,l0_1,bK default c0,iG,if_neg (fun h=>by rw[fT] at h;simp_all),if_pos ((fT _ _).2 (by simpa using c2))]))) rfl rfl
  refine aC (Z6 _ (bA [2,3,4,8,9,10,11] ?_));refine Z3 _ _ bE ⟨i+1,rfl,bE,?_,b9⟩
  ·(rw[l0_1,bK default c0,iG,if_neg (fun h=>by rw[fT] at h;simp_all),if_neg (fun h=>by rw[fT] at h;simp_all)])
 refine aY (Z1 _ (aB [4] ?_));refine aG (yJ (.cons ?_ (.cons ?_ .nil)))
 ·exact roC (by simp (disch:=omega) only[go_sem,seval]<;>rfl) (by simp (disch:=omega) only[go_sem,seval]<;>((rw[aK,l0_1,cT c0];rfl))) aZ (by first|rfl|(simp (disch:=omega) only[go_sem,seval]))
 exact kD (by simp (disch:=omega) only[go_sem,seval]<;>((rw[aK,l0_1,cT c0];rfl))) rfl rfl
theorem pL (O:aV) (l:aE) (e:cP):bB Tryz.prog O 183 [.agg (aQ l),.agg (cN e)] (vi (sL l e)):=by
 refine aW 0 rfl (.agg (d:=mW l.fSignals) (by simp[aQ]) (.sl _ _ _)) fun hs=>?_;refine dD Tryz.func183 ?_;refine aB [0,1] ?_;refine aA fun _ Z1=>aB [2,3] ?_;refine aD (aT [3,8,9,10] (fun n ρ=> ∃i,n=l.fSignals.length-i∧(i≤l.fSignals.length)∧(wH l.fSignals e 0=wH (l.fSignals.drop i) e i)∧ρ=cO O [(3,.bx (cN e)),(8,mW l.fSignals),(9,vi (l.fSignals.length:Nat)),(10,vi (i:Nat))]) _ ⟨0,rfl,?_,?_,?_⟩ ?_)
 ·exact bE
 ·rfl
 ·exact b9
 rintro n ρ ⟨i,rfl,l0_0,l0_1,rfl⟩ _ Z3;refine aB [2,3,7,8,9,10] ?_;refine aA fun _ Z5=>aL (fun c0=>?_) fun c0=>?_
 ·refine aC (Z5 _ (aA fun _ Z6=>aD (aB [2,3,7,8,9,10] ?_)));refine aB [2,3,5,6,7,8,9,10] ?_;refine aL (fun c1=>?_) fun c1=>?_
  ·refine aB [5] ?_;refine aG (bU 4 ?_);exact cG.is (by simp (disch:=omega) only[go_sem,seval]<;>((rw[sL,l0_1,bK default c0,wH,if_pos ((fT _ _).2 (by simpa using c1))]))) rfl rfl
  refine aC (Z6 _ (bA [2,3,7,8,9,10] ?_));refine Z3 _ _ bE ⟨i+1,rfl,bE,?_,b9⟩
  ·(rw[l0_1,bK default c0,wH,if_neg (fun h=>by rw[fT] at h;simp_all)])
 refine aY (Z1 _ (aB [] ?_));refine aG (bU 4 ?_);exact cG.is (by simp (disch:=omega) only[go_sem,seval]<;>((rw[sL,l0_1,cT c0];rfl))) rfl rfl
theorem zE (O:aV) (l:aE) (hl:hM l):bB Tryz.prog O 53 [.agg (aQ l)] (bT (hX l)):=by
 have hl1:=hl.sec;have hl2:=hl.el;have hl3:=hl.jo;have hl4:=hl.sg;have hl5:=hl.bl;refine aW 0 rfl (.agg (d:=lD l.fElements) (by simp[aQ]) (.sl _ _ _)) fun he=>?_;refine dD Tryz.func53 ?_;refine aB [0] ?_;refine aB [1] ?_;refine aA fun _ Z2=>aB [1,3] ?_;refine aD (dF 3 3 1 eI rfl rfl ?_);refine aT [3,7,8,9] (fun n ρ=> ∃i,n=l.fElements.length-i∧(i≤l.fElements.length)∧ρ=cO O [(3,x8 (aPc l i)),(7,lD l.fElements),(8,vi (l.fElements.length:Nat)),(9,vi (i:Nat))]) _ ⟨0,rfl,?_,?_⟩ ?_
 ·exact bE
 ·exact b9
 rintro n ρ ⟨i,rfl,l0_0,rfl⟩ _ Z4;have hfl:=aKw l i;refine aB [1,3,6,7,8,9] ?_;refine aA fun _ Z6=>aL (fun c0=>?_) fun c0=>?_
 ·refine aC (Z6 _ (aA fun _ Z7=>aD (aB [1,3,6,7,8,9] ?_)));refine aB [1,3,4,5,6,7,8,9] ?_;refine aL (fun c1=>?_) fun c1=>?_
  ·refine bA [1,3,4,6,7,8,9] ?_;refine Z7 _ (bA [1,3,6,7,8,9] ?_);refine Z4 _ _ bE ⟨i+1,rfl,bE,?_⟩;simp (disch:=omega) only[go_sem,seval]<;>(rw[aWn,if_pos c1];first|rfl|simp)
  refine aC (Z7 _ (bA [1,3,6,7,8,9] ?_));refine Z4 _ _ bE ⟨i+1,rfl,bE,?_⟩;simp (disch:=omega) only[go_sem,seval]<;>(rw[aWn,if_neg c1,cEw];rfl)
 refine aY (Z2 _ (aA fun _ Z10=>cB 3 _ rfl rfl ?_));refine bA [3] ?_;refine Z10 _ (aG (bU 2 ?_));exact cG.encL rfl (by (rw[show i=l.fElements.length by omega];rfl))
theorem xQ (O:aV) (l:aE) (s:Int) (hl:hM l):bB Tryz.prog O 100 [.agg (aQ l),vi s] (bT (bLn l s)):=by
 have hl1:=hl.sec;have hl2:=hl.el;have hl3:=hl.jo;have hl4:=hl.sg;have hl5:=hl.bl;refine aW 0 rfl (.agg (d:=lD l.fElements) (by simp[aQ]) (.sl _ _ _)) fun he=>?_;refine aW 0 rfl (.agg (d:=eV l.fSections) (by simp[aQ]) (.sl _ _ _)) fun hc=>?_;refine dD Tryz.func100 ?_;refine aB [0,1] ?_;refine aB [1,2] ?_;refine aA fun _ Z2=>aB [1,2,5] ?_;refine aD (dF 5 3 1 eI rfl rfl ?_);refine aT [1,2,5,9,10,11] (fun n ρ=> ∃i,n=l.fElements.length-i∧(i≤l.fElements.length)∧ρ=cO O [(1,vi s),(2,.bx (aQ l)),(5,x8 (o8 l s i)),(9,lD l.fElements),(10,vi (l.fElements.length:Nat)),(11,vi (i:Nat))]) _ ⟨0,rfl,?_,?_⟩ ?_
 ·exact bE
 ·simp (disch:=omega) only[go_sem,seval]<;>(rw[show o8 l s 0=[] by unfold o8;split<;>rfl];rfl)
 rintro n ρ ⟨i,rfl,l0_0,rfl⟩ _ Z4;have hfl:=bDk l s i;refine aB [1,2,5,8,9,10,11] ?_;refine aA fun _ Z6=>aL (fun c0=>?_) fun c0=>?_
 ·refine aC (Z6 _ (aA fun _ Z7=>aD (aB [1,2,5,8,9,10,11] ?_)));refine aB [1,2,5,6,7,8,9,10,11] ?_;refine aL (fun c1=>?_) fun c1=>?_
  ·refine bA [1,2,5,6,8,9,10,11] ?_;refine Z7 _ (bA [1,2,5,8,9,10,11] ?_);refine Z4 _ _ bE ⟨i+1,rfl,bE,?_⟩;simp (disch:=omega) only[go_sem,seval]<;>(rw[bQa (by show (l.fElements.getD i default).fSection=s;omega) aN aN];first|rfl|simp)
  refine aC (Z7 _ (bA [1,2,5,8,9,10,11] ?_));refine Z4 _ _ bE ⟨i+1,rfl,bE,?_⟩;simp (disch:=omega) only[go_sem,seval]<;>(rw[bQj (fun e=>(by have e:(l.fElements.getD i default).fSection=s:=e;omega))];rfl)
 refine aY (Z2 _ (aA fun _ Z10=>cB 5 _ rfl rfl ?_));refine bA [5] ?_;refine Z10 _ (aG (bU 4 ?_));exact cG.encL rfl (by (rw[show i=l.fElements.length by omega];rfl))
theorem eT (O:aV) (l:aE) (x:Int):bB Tryz.prog O 56 [.agg (aQ l),vi x] (vi (cJ l x)):=by
 refine aW 0 rfl (.agg (d:=lD l.fElements) (by simp[aQ]) (.sl _ _ _)) fun he=>?_;refine dD Tryz.func56 ?_;refine aB [0,1] ?_;refine aA fun _ Z1=>aB [1,2] ?_;refine aL (fun c0=>?_) fun c0=>?_
 ·refine aB [] ?_;refine aG (bU 4 ?_);exact cG.is (by simp (disch:=omega) only[go_sem,seval]<;>((unfold cJ;rw[if_neg aN]))) rfl rfl
 refine aC (Z1 _ (aB [1,2] ?_));refine aG (bU 4 ?_);exact cG.is (by simp (disch:=omega) only[go_sem,seval]<;>((unfold cJ;rw[if_pos aN]))) rfl rfl
abbrev bt (s:ByteArray) (i:Nat):Nat:=(s.data.getD i 0).toNat
def nmC (c:Nat):Bool:=(decide (97≤c)&&decide (c≤122))||(decide (48≤c)&&decide (c≤57))||decide (c=95)
def kT (s:ByteArray):Bool:=decide (1≤s.size∧s.size≤12∧97≤bt s 0∧bt s 0≤122)&&(List.range s.size).all fun i=>nmC (bt s i)
theorem bWk {s:ByteArray} {i:Nat} (hi:i<s.size) (h:nmC (bt s i)=false):kT s=false:=by
 unfold kT;rw[kK hi h,cBw]
theorem bVa {s:ByteArray} (h: ¬(1≤s.size∧s.size≤12∧97≤bt s 0∧bt s 0≤122)):kT s=false:=by
 unfold kT;rw[cFs h,cBl]
theorem bRe {x:ByteArray} {i:Nat} (hi:i<x.size) (h:(bt x i<97∨122<bt x i)∧(((bt x i<48∨57<bt x i)∧ ¬bt x i=95)∨i=0)):false=kT x:=by
 symm;rcases bZl i with h0|h0
 ·subst h0;exact bVa aN
 refine bWk hi ?_;unfold nmC;simp only[cCb,cDz,cFu];omega
theorem bUg {x:ByteArray} {i:Nat} (l:0<i→97≤bt x 0∧bt x 0≤122) (h:(97≤bt x i∧bt x i≤122)∨(((48≤bt x i∧bt x i≤57)∨bt x i=95)∧ ¬i=0)):0<i+1→97≤bt x 0∧bt x 0≤122:=fun _=>by
 rcases bZl i with h0|h0
 ·subst h0;omega
 exact l h0
theorem bUd {x:ByteArray} {i:Nat} (hi:i≤x.size) (l:0<i→97≤bt x 0∧bt x 0≤122) (h:gK (fun i=>nmC (bt x i)) i) (hs:x.size≤i):(decide (1≤x.size)&&decide (x.size≤12))=kT x:=by
 unfold kT;rw[jT h hs,Bool.and_true,cBk];simp only[bZi,cFp];rcases bZl i with h0|h0
 ·omega
 have:=l h0;omega
theorem aQb {a b:ByteArray}:a.toList=b.toList↔a=b:=by
 constructor
 ·intro h;rw[ByteArray.toList_eq,ByteArray.toList_eq] at h;cases a;cases b;congr;exact Array.toList_inj.1 h
 intro h;rw[h]
theorem tB (O:aV) (x:ByteArray) (hb:x.size≤140737488355328):bB Tryz.prog O 97 [vs x] (vb (kT x)):=by
 refine dD Tryz.func97 ?_;refine aB [0] ?_;refine aA fun _ Z1=>aB [0] ?_;refine aD (aT [0,3] (fun n ρ=> ∃i,n=x.size-i∧(i≤x.size)∧(gK (fun i=>nmC (bt x i)) i)∧(0<i→97≤bt x 0∧bt x 0≤122)∧ρ=cO O [(0,vs x),(3,vi (i:Nat))]) _ ⟨0,rfl,?_,?_,?_,?_⟩ ?_)
 ·exact bE
 ·exact eD _
 ·(intro h;omega)
 ·exact b9
 rintro n ρ ⟨i,rfl,l0_0,l0_1,l0_2,rfl⟩ _ Z3;refine aA fun _ Z4=>aB [0,3] ?_;refine aL (fun c0=>?_) fun c0=>?_
 ·refine aC (Z4 _ (aA fun _ Z6=>aD (aB [0,3] ?_)));refine aB [0,3,4] ?_;refine aB [0,3,4,5] ?_;refine aL (fun c1=>?_) fun c1=>?_
  ·refine aB [] ?_;refine aG (bU 2 (xb ?_))
   (exact bRe c0 (by show ((x.data.getD i 0).toNat<97∨122<(x.data.getD i 0).toNat)∧((((x.data.getD i 0).toNat<48∨57<(x.data.getD i 0).toNat)∧ ¬(x.data.getD i 0).toNat=95)∨i=0);omega))
  refine aC (Z6 _ (bA [0,3] ?_));refine Z3 _ _ bE ⟨i+1,rfl,bE,?_,?_,b9⟩
  ·exact eA l0_1 (by show nmC (x.data.getD i 0).toNat=true;unfold nmC;simp only[cEx,bZi,cFp];omega)
  ·exact bUg l0_2 (by show (97≤(x.data.getD i 0).toNat∧(x.data.getD i 0).toNat≤122)∨(((48≤(x.data.getD i 0).toNat∧(x.data.getD i 0).toNat≤57)∨(x.data.getD i 0).toNat=95)∧ ¬i=0);omega)
 refine aY (Z1 _ (aB [0] ?_));refine aG (bU 2 (xb ?_))
 (exact bUd l0_0 l0_2 l0_1 c0)
def inI (a lo hi:Int):Bool:=decide (lo≤a∧a≤hi)
def exB (l:aE) (e:cP):Bool:=decide (0≤e.fEl∧e.fEl<(l.fElements.length:Int))&&decide (0≤e.fSide∧e.fSide<fS (eP l e.fEl.toNat).fKind)
theorem aTi (k:Int):0≤fS k∧fS k≤4:=by unfold fS;split;omega;split;omega;split<;>omega
def sJ (l:aE):Bool:=decide (1≤l.fElements.length∧l.fElements.length≤32∧1≤l.fSections.length∧l.fSections.length≤24∧l.fSignals.length≤20∧l.fBalises.length≤24)
def yG (l:aE) (x:lL):Bool:=decide ((1≤x.fKind∧x.fKind≤3)∧(500≤x.fLength∧x.fLength≤1000000)∧(-50≤x.fGrade∧x.fGrade≤50)∧(100≤x.fSpeed∧x.fSpeed≤10000)∧(0≤x.fSection∧x.fSection<(l.fSections.length:Int))∧(x.fKind=2→100≤x.fSlow∧x.fSlow≤x.fSpeed)∧(x.fKind≠2→x.fSlow=0))
def kQ (l:aE):Bool:=l.fElements.all (yG l)
def qS (l:aE):Bool:=(List.range l.fSections.length).all fun s=>decide ((bLn l (s:Nat)).length≠0)
theorem kV (O:aV) (l:aE) (e:cP) (hl:hM l):bB Tryz.prog O 101 [.agg (aQ l),.agg (cN e)] (vb (exB l e)):=by
 have hl1:=hl.sec;have hl2:=hl.el;have hl3:=hl.jo;have hl4:=hl.sg;have hl5:=hl.bl;refine dD Tryz.func101 ?_;refine aB [0,1] ?_;refine aA fun _ Z1=>dE [2,3] [] ?_;refine i0 (fun g0=>rM _ (eP l e.fEl.toNat).fKind) ?_;refine Z1 _ (aG (bU 4 (xb ?_)))
 ((unfold exB;rw[cBk];simp only[eP,bZi,cFp];exact ⟨fun ⟨⟨⟨a,b⟩,c⟩,d⟩=>⟨⟨a,b⟩,c,d⟩,fun ⟨⟨a,b⟩,c,d⟩=>⟨⟨⟨a,b⟩,c⟩,d⟩⟩))
theorem aAx (O:aV) (l:aE) (x:lL) (hl:hM l):bB Tryz.prog O 99 [.agg (aQ l),.agg (iD x)] (vb (yG l x)):=by
 have hl1:=hl.sec;have hl2:=hl.el;have hl3:=hl.jo;have hl4:=hl.sg;have hl5:=hl.bl;refine dD Tryz.func99 ?_;refine aB [0,1] ?_;refine aA fun _ Z1=>aB [2,3] ?_;refine aL (fun c0=>?_) fun c0=>?_
 ·refine aB [] ?_;refine aG (bU 4 (xb ?_))
  ((symm;unfold yG;rw[cFu];omega))
 refine aC (Z1 _ (aA fun _ Z4=>aB [3] ?_));refine aL (fun c1=>?_) fun c1=>?_
 ·refine aB [3] ?_;refine aG (bU 4 (xb ?_))
  ((unfold yG;rw[cBk];simp only[bZi,cFp];omega))
 refine aC (Z4 _ (aB [3] ?_));refine aG (bU 4 (xb ?_))
 ((unfold yG;rw[cBk];simp only[bZi,cFp,cCe];omega))
end Go.Sg
namespace Go.Rv
open Go.RowKit Go.Sg
inductive Tr (α:Type) where
 |e
 |n (v:Option α) (a b c d:Tr α)
noncomputable def aEt {β:Type} (r:Nat) (x y z w:β):β:=Nat.rec (motive:=fun _=>β) x (fun r _=>Nat.rec (motive:=fun _=>β) y (fun r _=>Nat.rec (motive:=fun _=>β) z (fun _ _=>w) r) r) r
theorem aOa {β:Type} (x y z w:β):aEt 0 x y z w=x∧aEt 1 x y z w=y∧aEt 2 x y z w=z∧aEt 3 x y z w=w:=⟨rfl,rfl,rfl,rfl⟩
noncomputable def Tr.get {α:Type} (t:Tr α):Nat→Option α:=Tr.rec (motive:=fun _=>Nat→Option α) (fun _=>none)
 (fun v _ _ _ _ ga gb gc gd k=>Nat.rec (motive:=fun _=>Option α) v (fun j _=>aEt (Nat.mod j 4) (ga (Nat.div j 4)) (gb (Nat.div j 4)) (gc (Nat.div j 4)) (gd (Nat.div j 4))) k) t
noncomputable def Tr.mkA {α:Type} (v:Option α) (s b c d:Tr α):Tr α:=Tr.rec (motive:=fun _=>Tr α) (.n v .e b c d) (fun v' a' b' c' d' _ _ _ _=>.n v (.n v' a' b' c' d') b c d) s
noncomputable def Tr.mkB {α:Type} (v:Option α) (a s c d:Tr α):Tr α:=Tr.rec (motive:=fun _=>Tr α) (.n v a .e c d) (fun v' a' b' c' d' _ _ _ _=>.n v a (.n v' a' b' c' d') c d) s
noncomputable def Tr.mkC {α:Type} (v:Option α) (a b s d:Tr α):Tr α:=Tr.rec (motive:=fun _=>Tr α) (.n v a b .e d) (fun v' a' b' c' d' _ _ _ _=>.n v a b (.n v' a' b' c' d') d) s
noncomputable def Tr.mkD {α:Type} (v:Option α) (a b c s:Tr α):Tr α:=Tr.rec (motive:=fun _=>Tr α) (.n v a b c .e) (fun v' a' b' c' d' _ _ _ _=>.n v a b c (.n v' a' b' c' d')) s
theorem Tr.mk_eq {α:Type} (v:Option α) (a b c d:Tr α):Tr.mkA v a b c d=.n v a b c d∧Tr.mkB v a b c d=.n v a b c d∧Tr.mkC v a b c d=.n v a b c d∧Tr.mkD v a b c d=.n v a b c d:=by
 refine ⟨?_,?_,?_,?_⟩
 ·cases a<;>rfl
 ·cases b<;>rfl
 ·cases c<;>rfl
 cases d<;>rfl
noncomputable def Tr.putF {α:Type} (x:Option α) (f:Nat):Tr α→Nat→Tr α:=Nat.rec (motive:=fun _=>Tr α→Nat→Tr α) (fun t _=>t)
 (fun _ ih t k=>Tr.rec (motive:=fun _=>Tr α)
  (Nat.rec (motive:=fun _=>Tr α) (.n x .e .e .e .e) (fun j _=>aEt (Nat.mod j 4) (mkA none (ih .e (Nat.div j 4)) .e .e .e) (mkB none .e (ih .e (Nat.div j 4)) .e .e) (mkC none .e .e (ih .e (Nat.div j 4)) .e) (mkD none .e .e .e (ih .e (Nat.div j 4)))) k)
  (fun v a b c d _ _ _ _=>Nat.rec (motive:=fun _=>Tr α) (.n x a b c d) (fun j _=>aEt (Nat.mod j 4) (mkA v (ih a (Nat.div j 4)) b c d) (mkB v a (ih b (Nat.div j 4)) c d) (mkC v a b (ih c (Nat.div j 4)) d) (mkD v a b c (ih d (Nat.div j 4)))) k) t) f
theorem Tr.get_e {α:Type} (k:Nat):(Tr.e:Tr α).get k=none:=rfl
theorem Tr.get_ns {α:Type} (v:Option α) (a b c d:Tr α) (j:Nat):(Tr.n v a b c d).get (j+1)=aEt (j%4) (a.get (j/4)) (b.get (j/4)) (c.get (j/4)) (d.get (j/4)):=rfl
theorem Tr.putF_e0 {α:Type} (x:Option α) (f:Nat):Tr.putF x (f+1) .e 0=.n x .e .e .e .e:=rfl
theorem Tr.putF_es {α:Type} (x:Option α) (f j:Nat):Tr.putF x (f+1) .e (j+1)=Tr.putF x (f+1) (.n none .e .e .e .e) (j+1):=rfl
theorem Tr.putF_n0 {α:Type} (x:Option α) (f:Nat) (v:Option α) (a b c d:Tr α):Tr.putF x (f+1) (.n v a b c d) 0=.n x a b c d:=rfl
theorem Tr.putF_ns {α:Type} (x:Option α) (f j:Nat) (v:Option α) (a b c d:Tr α):Tr.putF x (f+1) (.n v a b c d) (j+1)=
  aEt (j%4) (.n v (Tr.putF x f a (j/4)) b c d) (.n v a (Tr.putF x f b (j/4)) c d) (.n v a b (Tr.putF x f c (j/4)) d) (.n v a b c (Tr.putF x f d (j/4))):=by
 have h:Tr.putF x (f+1) (.n v a b c d) (j+1)=aEt (j%4) (mkA v (Tr.putF x f a (j/4)) b c d) (mkB v a (Tr.putF x f b (j/4)) c d) (mkC v a b (Tr.putF x f c (j/4)) d) (mkD v a b c (Tr.putF x f d (j/4))):=rfl;rw[h,(Tr.mk_eq _ _ _ _ _).1,(Tr.mk_eq _ _ _ _ _).2.1,(Tr.mk_eq _ _ _ _ _).2.2.1,(Tr.mk_eq _ _ _ _ _).2.2.2]
theorem Tr.get_putF {α:Type} (x:Option α): ∀(f:Nat) (t:Tr α) (k:Nat) (j:Nat),k+1<2^f→(Tr.putF x f t k).get j=if j=k then x else t.get j
 |0,t,k,j,h=>by simp at h
 |f+1,t,k,j,h=>by
  have hp:2^(f+1)=2*2^f:=by rw[Nat.pow_succ,bZx]
  have key: ∀(v:Option α) (a b c d:Tr α) (k:Nat),k+1+1<2^(f+1)→ ∀j,(Tr.putF x (f+1) (.n v a b c d) (k+1)).get j=if j=k+1 then x else (Tr.n v a b c d).get j:=by
   intro v a b c d k hk j;have ih:=fun (s:Tr α) (j:Nat)=>Tr.get_putF x f s (k/4) j aN;rw[Tr.putF_ns];have hk4:k%4=0∨k%4=1∨k%4=2∨k%4=3:=by omega
   cases j with
   |zero=>
    rw[if_neg aN];rcases hk4 with h|h|h|h<;>rw[h]<;>rfl
   |succ j=>
    have hj4:j%4=0∨j%4=1∨j%4=2∨j%4=3:=by omega
    rw[Tr.get_ns]
    rcases hk4 with h|h|h|h<;>rcases hj4 with g|g|g|g<;>rw[h,g]<;>simp only[aOa,Tr.get_ns,g,ih]<;>first
     |(by_cases e:j=k
       ·subst e;simp
       rw[if_neg aN,if_neg aN])
     |(rw[if_neg aN])
  cases t with
  |e=>
   cases k with
   |zero=>
    rw[Tr.putF_e0];cases j with
    |zero=>rfl
    |succ j=>
     rw[Tr.get_ns,if_neg aN];have hj4:j%4=0∨j%4=1∨j%4=2∨j%4=3:=by omega
     rcases hj4 with g|g|g|g<;>rw[g]<;>rfl
   |succ k=>
    rw[Tr.putF_es,key none .e .e .e .e k h j];cases j with
    |zero=>rfl
    |succ j=>
     rw[Tr.get_ns];have hj4:j%4=0∨j%4=1∨j%4=2∨j%4=3:=by omega
     rcases hj4 with g|g|g|g<;>rw[g]<;>rfl
  |n v a b c d=>
   cases k with
   |zero=>
    rw[Tr.putF_n0];cases j with
    |zero=>rfl
    |succ j=>rw[if_neg aN];rfl
   |succ k=>exact key v a b c d k h j
def ub:Nat:=1000000
noncomputable def Tr.set {α:Type} (t:Tr α) (k:Nat) (x:Option α):Tr α:=Tr.putF x 22 t k
theorem Tr.get_set {α:Type} {t:Tr α} {k:Nat} {x:Option α} (h:k<ub) (j:Nat):(t.set k x).get j=if j=k then x else t.get j:=
 Tr.get_putF x 22 t k j (by unfold ub at h;omega)
inductive RV where
 |und
 |nov
 |bool (b:Bool)
 |int (k:IntKind) (n:Int)
 |str (s:ByteArray)
 |nilp
 |ptr (b off:Nat)
 |gp (g off:Nat)
 |yl (b:Nat)
 |nils
 |em
 |sl (b off len z:Nat) (cap:Option Nat) (full:Bool)
 |nilm
 |mp (b:Nat)
 |nilf
 |nili
 |fn (f:FuncId) (first captured:List RV)
 |agg (cs:List RV)
 |tup (cs:List RV)
 |ifc (t:TypeId) (x:RV)
instance:Inhabited RV:=⟨.und⟩
inductive dS where
 |cells (e:TypeId) (cs:List RV)
 |map (es:List (Value×RV×Nat)) (clock:Nat)
 |it (s:ByteArray) (pos:Nat)
 |rom (cs:List RV)
 |lp (st:LoopState) (pe:Option Code) (t:Tr RV) (nt:Nat) (ps:List Tmp) (asg body:Code)
abbrev dX:=Nat→Option (Nat×Nat)
inductive Rr (E:dX):RV→Value→Prop
 |und (x:Value):Rr E .und x
 |nov:Rr E .nov undef
 |bool (b:Bool):Rr E (.bool b) (.bool b)
 |int (k:IntKind) (n:Int):Rr E (.int k n) (.int k n)
 |str (s:ByteArray):Rr E (.str s) (.string s)
 |nilp:Rr E .nilp (.pointer none)
 |ptr (b off g s:Nat) (h:E b=some (g,s)):Rr E (.ptr b off) (.pointer (some ⟨g,off,none⟩))
 |gp (g off:Nat):Rr E (.gp g off) (.pointer (some ⟨g,off,none⟩))
 |yl (b g s:Nat) (h:E b=some (g,s)):Rr E (.yl b) (.func (.yield g) #[] #[])
 |nils:Rr E .nils (.slice none 0 0)
 |em (b:Option Addr) (c:Nat):Rr E .em (.slice b 0 c)
 |sl (b off len z:Nat) (cap:Option Nat) (full:Bool) (g s c:Nat) (h:E b=some (g,s)) (hl:len≤c) (hm:c≤maxLen) (hs:off+c*z≤s) (hf:full=true→off+c*z=s) (hc: ∀k,cap=some k→c=k):
   Rr E (.sl b off len z cap full) (.slice (some ⟨g,off,none⟩) len c)
 |nilm:Rr E .nilm (.map none)
 |mp (b g s:Nat) (h:E b=some (g,s)):Rr E (.mp b) (.map (some g))
 |nilf:Rr E .nilf .nilFunc
 |nili:Rr E .nili .nilIface
 |fn (f:FuncId) (fs cs:List RV) (us vs:Array Value) (hf:fs.length=us.size) (hc:cs.length=vs.size) (hfr: ∀(j:Nat) (d:RV) (u:Value),fs[j]?=some d→us[j]?=some u→Rr E d u)
   (hcr: ∀(j:Nat) (d:RV) (u:Value),cs[j]?=some d→vs[j]?=some u→Rr E d u):Rr E (.fn f fs cs) (.func (.func f) us vs)
 |agg (cs:List RV) (vs:Array Value) (hl:cs.length=vs.size) (hone: ∀u∈vs.toList,u.oneCell'=true) (hrel: ∀(j:Nat) (d:RV) (u:Value),cs[j]?=some d→vs[j]?=some u→Rr E d u):Rr E (.agg cs) (.agg vs)
 |tup (cs:List RV) (vs:Array Value) (hl:cs.length=vs.size) (hrel: ∀(j:Nat) (d:RV) (u:Value),cs[j]?=some d→vs[j]?=some u→Rr E d u):Rr E (.tup cs) (.tuple vs)
 |ifc (t:TypeId) (d:RV) (x:Value) (h:Rr E d x):Rr E (.ifc t d) (.iface t x)
theorem Rr.mono {E E':dX} (hE: ∀b p,E b=some p→E' b=some p) {v:RV} {x:Value} (h:Rr E v x):Rr E' v x:=by
 induction h with
 |und x=>exact .und x
 |nov=>exact .nov
 |bool b=>exact .bool b
 |int k n=>exact .int k n
 |str s=>exact .str s
 |nilp=>exact .nilp
 |ptr b off g s h=>exact .ptr b off g s (hE _ _ h)
 |gp g off=>exact .gp g off
 |yl b g s h=>exact .yl b g s (hE _ _ h)
 |nils=>exact .nils
 |em b c=>exact .em b c
 |sl b off len z cap full g s c h hl hm hs hf hc=>exact .sl b off len z cap full g s c (hE _ _ h) hl hm hs hf hc
 |nilm=>exact .nilm
 |mp b g s h=>exact .mp b g s (hE _ _ h)
 |nilf=>exact .nilf
 |nili=>exact .nili
 |fn f fs cs us vs hf hc hfr hcr ih1 ih2=>exact .fn f fs cs us vs hf hc ih1 ih2
 |agg cs vs hl hone hrel ih=>exact .agg cs vs hl hone ih
 |tup cs vs hl hrel ih=>exact .tup cs vs hl ih
 |ifc t d x h ih=>exact .ifc t d x ih
def BR (E:dX) (w:World) (k:dS) (g s:Nat):Prop:=
 match k with
 | .cells e cs=> ∃us,w.heap[g]?=some (.cells us e (0,0))∧us.size=s∧cs.length≤s∧ ∀(j:Nat) (v:RV) (u:Value),cs[j]?=some v→us[j]?=some u→u.oneCell'=true∧Rr E v u
 | .map es clock=> ∃vs:List MapEntry,w.heap[g]?=some (.map vs.toArray clock)∧es.length=vs.length∧ ∀(j:Nat) (e:Value×RV×Nat) (m:MapEntry),es[j]?=some e→vs[j]?=some m→m.key=e.1∧Rr E e.2.1 m.val∧m.born=e.2.2
 | .it s' pos=>w.heap[g]?=some (.stringIter s' pos)
 | .rom cs=> ∃us e fz,w.heap[g]?=some (.cells us e fz)∧us.size=s∧cs.length≤s∧ ∀(j:Nat) (v:RV) (u:Value),cs[j]?=some v→us[j]?=some u→u.oneCell'=true∧Rr E v u
 | .lp st pe t nt ps asg body=> ∃r:Loop,w.heap[g]?=some (.loop r)∧r.state=st∧r.pending=pe∧r.params.toList=ps∧r.assign=asg∧r.body=body∧r.tmps.size=nt∧ ∀i,i<nt→Rr E ((t.get i).getD .nov) (r.tmps.getD i undef)
theorem BR.mono {E E':dX} (hE: ∀b p,E b=some p→E' b=some p) {w w':World} {k:dS} {g s:Nat} (h:BR E w k g s) (hw:w'.heap[g]?=w.heap[g]?):BR E' w' k g s:=by
 cases k with
 |cells e cs=>
  obtain ⟨us,h1,h2,h3,h5⟩:=h;exact ⟨us,hw.trans h1,h2,h3,fun j v u hv hu=>⟨(h5 j v u hv hu).1,(h5 j v u hv hu).2.mono hE⟩⟩
 |map es clock=>
  obtain ⟨vs,h1,h2,h3⟩:=h;exact ⟨vs,hw.trans h1,h2,fun j e m he hm=>⟨(h3 j e m he hm).1,(h3 j e m he hm).2.1.mono hE,(h3 j e m he hm).2.2⟩⟩
 |it s' pos=>exact hw.trans h
 |rom cs=>
  obtain ⟨us,e,fz,h1,h2,h3,h5⟩:=h;exact ⟨us,e,fz,hw.trans h1,h2,h3,fun j v u hv hu=>⟨(h5 j v u hv hu).1,(h5 j v u hv hu).2.mono hE⟩⟩
 |lp st pe t nt ps asg body=>
  obtain ⟨r,h1,h2,h3,h4,h5,h6,h7,h8⟩:=h;exact ⟨r,hw.trans h1,h2,h3,h4,h5,h6,h7,fun i hi=>(h8 i hi).mono hE⟩
abbrev Hp:=Nat→Option dS
def NG:Nat:=1024
structure HS (E:dX) (h:Hp) (n m:Nat) (w:World):Prop where
 blk: ∀b k,h b=some k→ ∃g s,E b=some (g,s)∧BR E w k g s
 inj: ∀b c g s s',h b≠none→h c≠none→E b=some (g,s)→E c=some (g,s')→b=c
 old: ∀b g s,E b=some (g,s)→g<w.heap.size
 free: ∀b,n≤b→b<m→E b=none
 top: ∀b,m≤b→h b=none
 ng:NG≤n
 glob: ∀b,b<NG→h b≠none→ ∃s,E b=some (b,s)
structure RX (lo:Nat) (E:dX) (h:Hp) (n:Nat) (w:World) (E':dX) (h':Hp) (n':Nat) (w':World):Prop where
 os:w'.os=w.os
 tape:w'.tape=w.tape∧w.drawn≤w'.drawn
 output:w'.output=w.output
 size:w.heap.size≤w'.heap.size
 nn:n≤n'
 emb: ∀b,b<n∨n'≤b→E' b=E b
 frame: ∀g,g<w.heap.size→(∀b s,h b≠none→E b≠some (g,s))→w'.heap[g]?=w.heap[g]?∧ ∀b s,h' b≠none→E' b≠some (g,s)
 keep: ∀b,b<lo→h' b=h b∧ ∀g s,h b≠none→E b=some (g,s)→w'.heap[g]?=w.heap[g]?
 beyond: ∀b,n'≤b→h' b=h b
theorem RX.refl (lo:Nat) (E:dX) (h:Hp) (n:Nat) (w:World):RX lo E h n w E h n w:=
 ⟨rfl,⟨rfl,cCq _⟩,rfl,cCq _,cCq _,fun _ _=>rfl,fun _ _ hf=>⟨rfl,hf⟩,fun _ _=>⟨rfl,fun _ _ _ _=>rfl⟩,fun _ _=>rfl⟩
theorem HS.up {lo:Nat} {E E':dX} {h h':Hp} {n n' m:Nat} {w w':World} (hs:HS E h n m w) (hx:RX lo E h n w E' h' n' w') (hm:n'≤m): ∀b p,E b=some p→E' b=some p:=fun b p hb=>by
 rw[hx.emb b];exact hb;rcases cBd b n with h1|h1
 ·exact .inl h1
 refine .inr (cBc hm ?_);rcases cBd b m with h2|h2
 ·rw[hs.free b h1 h2] at hb;cases hb
 exact h2
theorem RX.trans {lo:Nat} {E E1 E2:dX} {h h1 h2:Hp} {n n1 n2 m:Nat} {w w1 w2:World} (x:RX lo E h n w E1 h1 n1 w1) (y:RX lo E1 h1 n1 w1 E2 h2 n2 w2) (hs:HS E h n m w) (hm:n1≤m) (hlo:lo≤n):RX lo E h n w E2 h2 n2 w2 where
 os:=y.os.trans x.os
 tape:=⟨y.tape.1.trans x.tape.1,cBc x.tape.2 y.tape.2⟩
 output:=y.output.trans x.output
 size:=cBc x.size y.size
 nn:=cBc x.nn y.nn
 emb:=fun b hb=>by
  have h1:=x.nn;have h2:=y.nn;rw[y.emb b aN,x.emb b aN]
 frame:=fun g hg hf=>by
  obtain ⟨a1,a2⟩:=x.frame g hg hf;obtain ⟨b1,b2⟩:=y.frame g (cDi hg x.size) a2;exact ⟨b1.trans a1,b2⟩
 keep:=fun b hb=>by
  obtain ⟨a1,a2⟩:=x.keep b hb;obtain ⟨b1,b2⟩:=y.keep b hb;refine ⟨b1.trans a1,fun g s hn he=>?_⟩;have hn1:h1 b≠none:=by rw[a1];exact hn
  have he1:E1 b=some (g,s):=by rw[x.emb b (.inl aN)];exact he
  exact (b2 g s hn1 he1).trans (a2 g s hn he)
 beyond:=fun b hb=>(y.beyond b hb).trans (x.beyond b (cBc y.nn hb))
structure SS (nt:Nat) (E:dX) (t:Tr RV) (a:Act):Prop where
 size:a.tmps.size=nt
 slot: ∀i,i<nt→Rr E ((t.get i).getD .nov) (a.tmps.getD i undef)
theorem SS.mono {nt:Nat} {E E':dX} {t:Tr RV} {a:Act} (h:SS nt E t a) (hE: ∀b p,E b=some p→E' b=some p):SS nt E' t a:=⟨h.size,fun i hi=>(h.slot i hi).mono hE⟩
theorem SS.put {nt:Nat} {E:dX} {t:Tr RV} {a:Act} (h:SS nt E t a) {d:Nat} (hd:d<nt) (hu:d<ub) {v:RV} {x:Value} (hr:Rr E v x):SS nt E (t.set d (some v)) (a.put (some d) x) where
 size:=by unfold Act.put;simp[h.size]
 slot:=fun i hi=>by
  rw[Tr.get_set hu,vL a d i x (by rw[h.size];exact hd)];split
  ·exact hr
  exact h.slot i hi
def oW (E:dX) (b:Nat) (p:Option (Nat×Nat)):dX:=fun c=>if c=b then p else E c
theorem dB (E:dX) (b:Nat) (p:Option (Nat×Nat)):oW E b p b=p:=if_pos rfl
theorem eY (E:dX) {b c:Nat} (p:Option (Nat×Nat)) (h:c≠b):oW E b p c=E c:=if_neg h
def rD (h:Hp) (b:Nat) (k:Option dS):Hp:=fun c=>if c=b then k else h c
theorem sD (h:Hp) (b:Nat) (k:Option dS):rD h b k b=k:=if_pos rfl
theorem dU (h:Hp) {b c:Nat} (k:Option dS) (hn:c≠b):rD h b k c=h c:=if_neg hn
theorem d2 {t:Tr dS} {k:Nat} {x:Option dS} (h:k<ub):(t.set k x).get=rD t.get k x:=funext fun j=>Tr.get_set h j
section
variable {lo:Nat} {E:dX} {h:Hp} {n m:Nat} {w:World}
theorem HS.new (hs:HS E h n m w) (hm:n<m) (hlo:lo≤n) {w':World} {o:Obj} (h1:w'.heap=w.heap.push o) (h2:w'.os=w.os) (h3:w'.tape=w.tape∧w.drawn≤w'.drawn) (h4:w'.output=w.output) {k:dS} {s:Nat}
  (hb:BR (oW E n (some (w.heap.size,s))) w' k w.heap.size s):
  HS (oW E n (some (w.heap.size,s))) (rD h n (some k)) (n+1) m w'∧RX lo E h n w (oW E n (some (w.heap.size,s))) (rD h n (some k)) (n+1) w'∧ ∀b p,E b=some p→oW E n (some (w.heap.size,s)) b=some p:=by
 have hfr:E n=none:=hs.free n (cCq _) hm;have hup: ∀b p,E b=some p→oW E n (some (w.heap.size,s)) b=some p:=fun b p hp=>by
  rw[eY];exact hp;intro e;subst e;rw[hfr] at hp;cases hp
 have hold: ∀g,g<w.heap.size→w'.heap[g]?=w.heap[g]?:=fun g hg=>by rw[h1,cFi,if_neg aN]
 have hsz:w'.heap.size=w.heap.size+1:=by rw[h1,Array.size_push]
 refine ⟨⟨fun b k' hk=>?_,fun b c g s1 s2 hb1 hc1 he1 he2=>?_,fun b g s1 he=>?_,fun b hb1 hb2=>?_,fun b hb=>by rw[dU _ _ aN];exact hs.top b hb,Nat.le_succ_of_le hs.ng,fun b hb hn=>by
  have:=hs.ng;rw[dU _ _ aN] at hn;rw[eY _ _ aN];exact hs.glob b hb hn⟩,⟨h2,h3,h4,by omega,by omega,fun b hb=>eY _ _ aN,fun g hg hf=>⟨hold g hg,fun b s1 hb1 he=>?_⟩,fun b hb=>⟨dU _ _ aN,fun g s1 _ he=>hold g (hs.old b g s1 he)⟩,fun b hb=>dU _ _ aN⟩,hup⟩
 ·by_cases e:b=n
  ·subst e;rw[sD] at hk;cases hk;exact ⟨_,_,dB _ _ _,hb⟩
  rw[dU _ _ e] at hk;obtain ⟨g,s1,q1,q2⟩:=hs.blk b k' hk;exact ⟨g,s1,hup _ _ q1,q2.mono hup (hold g (hs.old b g s1 q1))⟩
 ·have cases2: ∀c s2,oW E n (some (w.heap.size,s)) c=some (g,s2)→(c=n∧g=w.heap.size)∨(c≠n∧E c=some (g,s2)):=fun c s2 he=>by
   by_cases e:c=n
   ·subst e;rw[dB] at he;cases he;exact .inl ⟨rfl,rfl⟩
   rw[eY _ _ e] at he;exact .inr ⟨e,he⟩
  rcases cases2 b s1 he1 with ⟨e1,e2⟩|⟨e1,e2⟩<;>rcases cases2 c s2 he2 with ⟨e3,e4⟩|⟨e3,e4⟩
  ·rw[e1,e3]
  ·have:=hs.old c g s2 e4;omega
  ·have:=hs.old b g s1 e2;omega
  rw[dU _ _ e1] at hb1;rw[dU _ _ e3] at hc1;exact hs.inj b c g s1 s2 hb1 hc1 e2 e4
 ·by_cases e:b=n
  ·subst e;rw[dB] at he;cases he;omega
  rw[eY _ _ e] at he;have:=hs.old b g s1 he;omega
 ·rw[eY _ _ aN];exact hs.free b aN hb2
 by_cases e:b=n
 ·subst e;rw[dB] at he;cases he;omega
 rw[eY _ _ e] at he;rw[dU _ _ e] at hb1;exact hf b s1 hb1 he
theorem HS.turn (hs:HS E h n m w) {b g s:Nat} (hlo:lo≤b) (hbn:b<n) (hb:h b≠none) (he:E b=some (g,s)) {w':World} (hsz:w'.heap.size=w.heap.size) (hoth: ∀g',g'≠g→w'.heap[g']?=w.heap[g']?) (h2:w'.os=w.os) (h3:w'.tape=w.tape∧w.drawn≤w'.drawn) (h4:w'.output=w.output)
  {k:dS} (hk:BR E w' k g s):HS E (rD h b (some k)) n m w'∧RX lo E h n w E (rD h b (some k)) n w':=by
 have hlive: ∀c,rD h b (some k) c≠none→h c≠none:=fun c hc=>by
  by_cases e:c=b
  ·subst e;exact hb
  rwa [dU _ _ e] at hc
 refine ⟨⟨fun c k' hk'=>?_,fun c d g1 s1 s2 hc hd=>hs.inj c d g1 s1 s2 (hlive c hc) (hlive d hd),fun c g1 s1 hc=>by rw[hsz];exact hs.old c g1 s1 hc,hs.free,fun c hc=>by
  by_cases e:c=b
  ·subst e;exact absurd (hs.top c hc) hb
  ·rw[dU _ _ e];exact hs.top c hc,hs.ng,fun c hc hn=>hs.glob c hc (hlive c hn)⟩,
  ⟨h2,h3,h4,by omega,cCq _,fun _ _=>rfl,fun g1 hg1 hf=>⟨hoth g1 fun e=>?_,fun c s1 hc=>hf c s1 (hlive c hc)⟩,fun c hc=>⟨dU _ _ aN,fun g1 s1 hc1 he1=>hoth g1 fun e=>?_⟩,fun c hc=>dU _ _ aN⟩⟩
 ·by_cases e:c=b
  ·subst e;rw[sD] at hk';cases hk';exact ⟨g,s,he,hk⟩
  rw[dU _ _ e] at hk';obtain ⟨g1,s1,q1,q2⟩:=hs.blk c k' hk';refine ⟨g1,s1,q1,q2.mono (fun _ _ h=>h) (hoth g1 fun e2=>?_)⟩;subst e2;exact e (hs.inj c b g1 s1 s (by rw[hk'];simp) hb q1 he)
 ·subst e;exact hf b s hb he
 subst e;have:=hs.inj c b g1 s1 s hc1 hb he1 he;omega
theorem HS.regrow (hs:HS E h n m w) (hm:n<m) (hln:lo≤n) {b g s:Nat} (hlo:lo≤b) (hbn:b<n) (hb:h b≠none) (he:E b=some (g,s)) {w':World} (h2:w'.os=w.os) (h3:w'.tape=w.tape∧w.drawn≤w'.drawn) (h4:w'.output=w.output)
  (hsz:w.heap.size≤w'.heap.size) (hoth: ∀g',g'<w.heap.size→g'≠g→w'.heap[g']?=w.heap[g']?) {g2 s2:Nat} (hat:g2=g∨g2=w.heap.size) (hlt:g2<w'.heap.size) {k:dS} (hk:BR (oW E n (some (g2,s2))) w' k g2 s2):
  HS (oW E n (some (g2,s2))) (rD (rD h b none) n (some k)) (n+1) m w'∧RX lo E h n w (oW E n (some (g2,s2))) (rD (rD h b none) n (some k)) (n+1) w'∧ ∀b p,E b=some p→oW E n (some (g2,s2)) b=some p:=by
 have hfr:E n=none:=hs.free n (cCq _) hm;have hup: ∀b p,E b=some p→oW E n (some (g2,s2)) b=some p:=fun b p hp=>by
  rw[eY];exact hp;intro e;subst e;rw[hfr] at hp;cases hp
 have hgb:g<w.heap.size:=hs.old b g s he;have hlive: ∀c,c≠n→rD (rD h b none) n (some k) c≠none→c≠b∧h c≠none:=fun c hcn hc=>by
  rw[dU _ _ hcn] at hc;by_cases e:c=b
  ·subst e;rw[sD] at hc;exact absurd rfl hc
  rw[dU _ _ e] at hc;exact ⟨e,hc⟩
 have hne: ∀c g1 s1,c≠b→h c≠none→E c=some (g1,s1)→g1≠g∧g1≠g2:=fun c g1 s1 hcb hc hec=>by
  have h1:g1≠g:=fun e=>hcb (hs.inj c b g1 s1 s hc hb hec (by rw[e];exact he));refine ⟨h1,fun e=>?_⟩;have:=hs.old c g1 s1 hec;rcases hat with h|h<;>omega
 refine ⟨⟨fun c k' hk'=>?_,fun c d g1 s1 s3 hc hd he1 he2=>?_,fun c g1 s1 hc=>?_,fun c hc1 hc2=>?_,fun c hc=>by rw[dU _ _ aN,dU _ _ aN];exact hs.top c hc,Nat.le_succ_of_le hs.ng,fun c hc hn=>by
   have:=hs.ng;obtain ⟨s1,hs1⟩:=hs.glob c hc (hlive c aN hn).2;exact ⟨s1,hup _ _ hs1⟩⟩,
  ⟨h2,h3,h4,hsz,by omega,fun c hc=>eY _ _ aN,fun g1 hg1 hf=>⟨hoth g1 hg1 fun e=>?_,fun c s1 hc hec=>?_⟩,fun c hc=>⟨?_,fun g1 s1 hc1 he1=>hoth g1 (hs.old c g1 s1 he1) (hne c g1 s1 aN hc1 he1).1⟩,fun c hc=>?_⟩,hup⟩
 ·by_cases e:c=n
  ·subst e;rw[sD] at hk';cases hk';exact ⟨g2,s2,dB _ _ _,hk⟩
  obtain ⟨e1,e2⟩:=hlive c e (by rw[hk'];simp);rw[dU _ _ e,dU _ _ e1] at hk';obtain ⟨g1,s1,q1,q2⟩:=hs.blk c k' hk';exact ⟨g1,s1,hup _ _ q1,q2.mono hup (hoth g1 (hs.old c g1 s1 q1) (hne c g1 s1 e1 e2 q1).1)⟩
 ·by_cases e1:c=n<;>by_cases e2:d=n
  ·rw[e1,e2]
  ·subst e1;rw[dB] at he1;cases he1;rw[eY _ _ e2] at he2;obtain ⟨q1,q2⟩:=hlive d e2 hd;exact absurd rfl (hne d _ _ q1 q2 he2).2
  ·subst e2;rw[dB] at he2;cases he2;rw[eY _ _ e1] at he1;obtain ⟨q1,q2⟩:=hlive c e1 hc;exact absurd rfl (hne c _ _ q1 q2 he1).2
  rw[eY _ _ e1] at he1;rw[eY _ _ e2] at he2;exact hs.inj c d g1 s1 s3 (hlive c e1 hc).2 (hlive d e2 hd).2 he1 he2
 ·by_cases e:c=n
  ·subst e;rw[dB] at hc;cases hc;exact hlt
  rw[eY _ _ e] at hc;exact cDi (hs.old c g1 s1 hc) hsz
 ·rw[eY _ _ aN];exact hs.free c aN hc2
 ·subst e;exact hf b s hb he
 ·by_cases e:c=n
  ·subst e;rw[dB] at hec;cases hec;rcases hat with h|h
   ·subst h;exact hf b s hb he
   omega
  rw[eY _ _ e] at hec;exact hf c s1 (hlive c e hc).2 hec
 ·rw[dU _ _ aN,dU _ _ aN]
 rw[dU _ _ aN,dU _ _ aN]
theorem HS.sub (hs:HS E h n m w) {h':Hp} (hsub: ∀b,h' b≠none→h' b=h b):HS E h' n m w where
 blk:=fun b k hk=>hs.blk b k (by rw[← hsub b (by rw[hk];simp)];exact hk)
 inj:=fun b c g s s' hb hc=>hs.inj b c g s s' (by rw[← hsub b hb];exact hb) (by rw[← hsub c hc];exact hc)
 old:=hs.old
 free:=hs.free
 top:=fun b hb=>by
  cases hk:h' b with
  |none=>rfl
  |some k=>have:=hsub b (by rw[hk];simp);rw[hk,hs.top b hb] at this;cases this
 ng:=hs.ng
 glob:=fun b hb hn=>hs.glob b hb (by rw[← hsub b hn];exact hn)
theorem HS.none_of (hs:HS E h n m w) {b:Nat} (hb:n≤b):h b=none:=by
 rcases cBd b m with h1|h1
 ·cases hk:h b with
  |none=>rfl
  |some k=>
   obtain ⟨g,s,he,_⟩:=hs.blk b k hk;rw[hs.free b hb h1] at he;cases he
 exact hs.top b h1
theorem HS.side {ne l:Nat} {hm h2:Hp} {E':dX} {nn n':Nat} {w':World} (hs:HS E h ne m w) (hsub: ∀b,hm b≠none→hm b=h b) (htop: ∀b,nn≤b→hm b=none) (hx:RX l E hm nn w E' h2 n' w') (hl:l≤nn) (hs':HS E' h2 n' n' w') (hne:n'≤ne) (hnm:ne≤m) (hfr: ∀b,nn≤b→b<n'→E b=none)
  {H':Hp} (h1: ∀b,hm b≠none∨(nn≤b∧b<n')→H' b=h2 b) (h0: ∀b,hm b=none→b<nn∨n'≤b→H' b=h b):
  HS E' H' ne m w'∧(∀{lo:Nat} {E0:dX} {hh:Hp} {n0:Nat} {w0:World},RX lo E0 hh n0 w0 E h ne w→lo≤l→lo≤n0→n0≤nn→RX lo E0 hh n0 w0 E' H' ne w'):=by
 have hnn:=hx.nn;have hside: ∀b g s,hm b=none→h b≠none→E b=some (g,s)→w'.heap[g]?=w.heap[g]?∧ ∀c s2,h2 c≠none→E' c≠some (g,s2):=fun b g s hlm hl he=>
  hx.frame g (hs.old b g s he) fun c s2 hc hec=>by
   have:=hs.inj c b g s2 s (by rw[← hsub c hc];exact hc) hl hec he;subst this;exact hc hlm
 have hE: ∀b,b<nn∨n'≤b→E' b=E b:=hx.emb;have hup: ∀b p,E b=some p→E' b=some p:=fun b p he=>by
  rw[hE b];exact he;rcases cBd b nn with h3|h3
  ·exact .inl h3
  rcases cBd b n' with h4|h4
  ·rw[hfr b h3 h4] at he;cases he
  exact .inr h4
 have hin: ∀b,(hm b≠none∨(nn≤b∧b<n'))∨(hm b=none∧(b<nn∨n'≤b)):=fun b=>by
  by_cases e:hm b=none
  ·rcases cBd b nn with h3|h3
   ·exact .inr ⟨e,.inl h3⟩
   rcases cBd b n' with h4|h4
   ·exact .inl (.inr ⟨h3,h4⟩)
   exact .inr ⟨e,.inr h4⟩
  exact .inl (.inl e)
 have hhi: ∀b,n'≤b→hm b=none:=fun b hb=>htop b aN;refine ⟨⟨fun b k hk=>?_,fun b c g s s' hb hc he1 he2=>?_,hs'.old,fun b hb1 hb2=>?_,fun b hb=>?_,hs.ng,fun b hb hn=>?_⟩,fun {lo E0 hh n0 w0} hr hll hlo hn0=>⟨hx.os.trans hr.os,⟨hx.tape.1.trans hr.tape.1,cBc hr.tape.2 hx.tape.2⟩,hx.output.trans hr.output,cBc hr.size hx.size,hr.nn,fun b hb=>?_,fun g hg hf=>?_,fun b hb=>⟨?_,fun g s hl he=>?_⟩,fun b hb=>?_⟩⟩
 ·rcases hin b with q|⟨q0,q⟩
  ·rw[h1 b q] at hk;exact hs'.blk b k hk
  rw[h0 b q0 q] at hk;obtain ⟨g,s,e1,e2⟩:=hs.blk b k hk;exact ⟨g,s,hup _ _ e1,e2.mono hup (hside b g s q0 (by rw[hk];simp) e1).1⟩
 ·rcases hin b with q|⟨q0,q⟩<;>rcases hin c with r|⟨r0,r⟩
  ·rw[h1 b q] at hb;rw[h1 c r] at hc;exact hs'.inj b c g s s' hb hc he1 he2
  ·rw[h1 b q] at hb;rw[h0 c r0 r] at hc;rw[hE c r] at he2;exact absurd he1 ((hside c g s' r0 hc he2).2 b s hb)
  ·rw[h0 b q0 q] at hb;rw[h1 c r] at hc;rw[hE b q] at he1;exact absurd he2 ((hside b g s q0 hb he1).2 c s' hc)
  rw[h0 b q0 q] at hb;rw[h0 c r0 r] at hc;rw[hE b q] at he1;rw[hE c r] at he2;exact hs.inj b c g s s' hb hc he1 he2
 ·rw[hE b (.inr aN)];exact hs.free b hb1 hb2
 ·rw[h0 b (hhi b aN) (.inr aN)];exact hs.top b hb
 ·rcases hin b with q|⟨q0,q⟩
  ·rw[h1 b q] at hn;exact hs'.glob b hb hn
  rw[h0 b q0 q] at hn;obtain ⟨s1,hs1⟩:=hs.glob b hb hn;exact ⟨s1,hup _ _ hs1⟩
 ·rw[hE b aN];exact hr.emb b hb
 ·obtain ⟨a1,a2⟩:=hr.frame g hg hf;obtain ⟨b1,b2⟩:=hx.frame g (cDi hg hr.size) fun b s hb=>a2 b s (by rw[← hsub b hb];exact hb);refine ⟨b1.trans a1,fun b s hb=>?_⟩;rcases hin b with q|⟨q0,q⟩
  ·rw[h1 b q] at hb;exact b2 b s hb
  rw[h0 b q0 q] at hb;rw[hE b q];exact a2 b s hb
 ·by_cases e:hm b=none
  ·rw[h0 b e (.inl aN)];exact (hr.keep b hb).1
  rw[h1 b (.inl e),(hx.keep b aN).1,hsub b e];exact (hr.keep b hb).1
 ·have hl1:h b≠none:=by rw[(hr.keep b hb).1];exact hl
  have he1:E b=some (g,s):=by rw[hr.emb b (.inl aN)];exact he
  refine Eq.trans ?_ ((hr.keep b hb).2 g s hl he);by_cases e:hm b=none
  ·exact (hside b g s e hl1 he1).1
  exact (hx.keep b aN).2 g s e he1
 rw[h0 b (hhi b aN) (.inr aN)];exact hr.beyond b hb
end
end Go.Rv
namespace Go.Rv
open Go.RowKit Go.Sg
noncomputable section
def bHy:Value→Value→Option Bool
 | .int k a,.int k' b=>some (decide (k=k')&&a==b)
 | .bool a,.bool b=>some (a==b)
 | .string a,.string b=>some (a.data.toList==b.data.toList)
 |_,_=>none
def bEg:List Value→List Value→Option Bool
 | [],[]=>some true
 |a::asW,b::bs=>(match bHy a b,bEg asW bs with
  |some x,some y=>some (x&&y)
  |_,_=>none)
 |_,_=>none
def vEq:Value→Value→Option Bool
 | .agg a,.agg b=>bEg a.toList b.toList
 |a,b=>bHy a b
theorem aRo {a b:Value} {r:Bool} (h:bHy a b=some r):r=true↔a=b:=by
 unfold bHy at h;split at h<;>cases h
 ·simp
 ·simp
 rename_i x y;rw[cCe];constructor
 ·intro e;cases x;cases y;simp at e;rw[e]
 intro e;cases e;rfl
theorem aQy: ∀{a b:List Value} {r:Bool},bEg a b=some r→(r=true↔a=b)
 | [],[],r,h=>by cases h;simp
 |a::asW,b::bs,r,h=>by
  unfold bEg at h;split at h<;>cases h;rename_i x y h1 h2;have i1:=aRo h1;have i2:=aQy h2;simp[i1,i2]
 | [],_::_,r,h=>by cases h
 |_::_,[],r,h=>by cases h
theorem aPt {a b:Value} {r:Bool} (h:vEq a b=some r):r=true↔a=b:=by
 unfold vEq at h;split at h
 ·rename_i x y;rw[aQy h];constructor
  ·intro e;rw[Array.toList_inj.1 e]
  intro e;cases e;rfl
 exact aRo h
def goodB (P:Program) (k:TypeId) (v:Value):Bool:=
 match P.underlying k with
 |some .bool=>(match v with| .bool _=>true|_=>false)
 |some (.int q)=>(match v with| .int q' _=>decide (q'=q)|_=>false)
 |some .string=>(match v with| .string _=>true|_=>false)
 |some (.array _ _)=>(keyOf P k v).isSome&&P.keyTypeAt 8 k&&P.tiled 8 k
 |some (.struct _)=>(keyOf P k v).isSome&&P.keyTypeAt 8 k&&P.tiled 8 k
 |_=>false
section
variable {P:Program} {k:TypeId}
structure KeyRun (P:Program) (k:TypeId):Prop where
 check: ∀(w:World) (em:Bool) {v:Value},goodB P k v=true→(Instr.checkKey em 10000 k v).run P w=.ok () w
 find: ∀(w:World) {x:Value},goodB P k x=true→ ∀es:List MapEntry,(∀e∈es,goodB P k e.key=true)→
  ((Instr.findKey k x es).run P w=.ok none w∧ ∀e∈es,e.key≠x)∨ ∃j e,(Instr.findKey k x es).run P w=.ok (some (j,e.val)) w∧es[j]?=some e∧e.key=x
 stays: ∀(w:World) {v:Value},goodB P k v=true→(Instr.keyThatStays v v).run P w=.ok v w
theorem o9 {d:TypeDesc} (hd:P.underlying k=some d) (hg: ∀v,goodB P k v=true→MapKept.IsKey d v):KeyRun P k where
 check:=fun w em v hv=>MapKept.run_checkKey hd (hg v hv) em 9999
 find:=fun w x hx es hes=>by
  rcases MapKept.findNow_spec (hg x hx) es 0 (fun e he=>hg _ (hes e he)) with ⟨h1,h2⟩|⟨j,e,h1,h2,h3⟩
  ·exact .inl ⟨MapKept.run_findKey hd h1,h2⟩
  exact .inr ⟨j,e,by rw[MapKept.run_findKey hd h1,cFa],h2,h3⟩
 stays:=fun w v hv=>MapKept.run_keyThatStays (hg v hv)
theorem yP (hw:(match P.underlying k with|some (.array _ _)|some (.struct _)=>true|_=>false)=true) (hk:P.keyTypeAt 8 k=true) (ht:P.tiled 8 k=true)
  (hg: ∀v,goodB P k v=true→ ∃l,keyOf P k v=some l):KeyRun P k where
 check:=fun w em v hv=>by obtain ⟨l,hl⟩:=hg v hv;exact (deep_law (m:=8) aN hk ht hw).check w em hl
 find:=fun w x hx es hes=>by
  obtain ⟨l,hl⟩:=hg x hx;exact (deep_law (m:=8) aN hk ht hw).find w hl es fun e he=>hg _ (hes e he)
 stays:=fun w v hv=>by obtain ⟨l,hl⟩:=hg v hv;exact (deep_law (m:=8) aN hk ht hw).stays w hl
theorem keyRun_of {v:Value} (h:goodB P k v=true):KeyRun P k:=by
 cases hu:P.underlying k with
 |none=>simp[goodB,hu] at h
 |some d=>
  cases d with
  |bool=>exact o9 hu fun v hv=>by cases v<;>simp[goodB,hu] at hv<;>trivial
  |int q=>exact o9 hu fun v hv=>by cases v<;>simp[goodB,hu] at hv;exact hv
  |string=>exact o9 hu fun v hv=>by cases v<;>simp[goodB,hu] at hv<;>trivial
  |array n e=>
   simp[goodB,hu] at h;exact yP (by simp[hu]) h.1.2 h.2 fun v hv=>by simp[goodB,hu] at hv;exact cAu.1 hv.1.1
  |struct fs=>
   simp[goodB,hu] at h;exact yP (by simp[hu]) h.1.2 h.2 fun v hv=>by simp[goodB,hu] at hv;exact cAu.1 hv.1.1
  |_=>simp[goodB,hu] at h
def s5 (x:Value):List (Value×RV×Nat)→Nat→Option (List (Nat×RV×Nat))
 | [],_=>some []
 |e::es,i=>(match vEq e.1 x,s5 x es (i+1) with
  |some true,some l=>some ((i,e.2)::l)
  |some false,some l=>some l
  |_,_=>none)
def aKk (P:Program) (k:TypeId) (x:Value) (es:List (Value×RV×Nat)):Option (Option (Nat×RV×Nat)):=
 bif goodB P k x&&es.all (fun e=>goodB P k e.1) then (match s5 x es 0 with
  |some []=>some none
  |some [p]=>some (some p)
  |_=>none) else none
theorem aCu {x:Value}: ∀{es:List (Value×RV×Nat)} {i:Nat} {l:List (Nat×RV×Nat)},s5 x es i=some l→ ∀(j:Nat) (e:Value×RV×Nat),es[j]?=some e→(e.1=x↔(i+j,e.2)∈l)
 | [],i,l,h,j,e,he=>by simp at he
 |a::es,i,l,h,j,e,he=>by
  have hlow: ∀{es:List (Value×RV×Nat)} {i:Nat} {l:List (Nat×RV×Nat)},s5 x es i=some l→ ∀p∈l,i≤p.1:=by
   intro es
   induction es with
   |nil=>intro i l h p hp;cases h;cases hp
   |cons a es ih=>
    intro i l h p hp;unfold s5 at h;split at h<;>cases h
    ·rcases cDt.1 hp with rfl|hp
     ·exact cCq _
     exact Nat.le_of_succ_le (ih ‹_› p hp)
    exact Nat.le_of_succ_le (ih ‹_› p hp)
  unfold s5 at h;split at h<;>cases h
  ·rename_i l' h1 h2;have hx:=(aPt h1).1 rfl;cases j with
   |zero=>simp at he;subst he;simp[hx]
   |succ j=>
    have:=aCu h2 j e (by simpa using he);rw[this,show i+1+j=i+(j+1) by omega];constructor
    ·exact fun hm=>cAi _ hm
    intro hm;rcases cDt.1 hm with hm|hm
    ·have:=congrArg Prod.fst hm;simp at this
    exact hm
  rename_i h1 h2;cases j with
  |zero=>
   simp at he;subst he;have hne: ¬a.1=x:=fun e=>by have:=(aPt h1).2 e;cases this
   simp only[hne,false_iff];intro hm;have:=hlow h2 _ hm;simp at this;omega
  |succ j=>
   have:=aCu h2 j e (by simpa using he);rw[this,show i+1+j=i+(j+1) by omega]
theorem xW {x:Value}: ∀{es:List (Value×RV×Nat)} {i:Nat} {l:List (Nat×RV×Nat)},s5 x es i=some l→ ∀p∈l,∃(j:Nat) (e:Value×RV×Nat),es[j]?=some e∧e.1=x
 | [],i,l,h,p,hp=>by cases h;cases hp
 |a::es,i,l,h,p,hp=>by
  unfold s5 at h;split at h<;>cases h
  ·rename_i l' h1 h2;rcases cDt.1 hp with rfl|hp
   ·exact ⟨0,a,rfl,(aPt h1).1 rfl⟩
   obtain ⟨j,e,he,hx⟩:=xW h2 p hp;exact ⟨j+1,e,by simpa using he,hx⟩
  rename_i h1 h2;obtain ⟨j,e,he,hx⟩:=xW h2 p hp;exact ⟨j+1,e,by simpa using he,hx⟩
def ER (E:dX) (es:List (Value×RV×Nat)) (vs:List MapEntry):Prop:=es.length=vs.length∧ ∀(j:Nat) (e:Value×RV×Nat) (m:MapEntry),es[j]?=some e→vs[j]?=some m→m.key=e.1∧Rr E e.2.1 m.val∧m.born=e.2.2
theorem wA {E:dX} {x:Value} {es:List (Value×RV×Nat)} {r:Option (Nat×RV×Nat)} (h:aKk P k x es=some r) {vs:List MapEntry} (hr:ER E es vs) (w:World):
  (∀em,(Instr.checkKey em 10000 k x).run P w=.ok () w)∧(Instr.keyThatStays x x).run P w=.ok x w∧
  (match r with
  |none=>(Instr.findKey k x vs).run P w=.ok none w
  |some (j,d,c)=> ∃m,(Instr.findKey k x vs).run P w=.ok (some (j,m.val)) w∧vs[j]?=some m∧m.key=x∧Rr E d m.val∧m.born=c):=by
 unfold aKk at h;obtain ⟨h1,h2⟩:(goodB P k x&&es.all (fun e=>goodB P k e.1))=true∧(match s5 x es 0 with|some []=>some none|some [p]=>some (some p)|_=>none)=some r:=by
  cases hc:(goodB P k x&&es.all (fun e=>goodB P k e.1)) with
  |true=>rw[hc] at h;exact ⟨rfl,h⟩
  |false=>rw[hc] at h;cases h
 rw[bZi,cCk] at h1;have K:=keyRun_of h1.1;have hat: ∀(j:Nat) (m:MapEntry),vs[j]?=some m→ ∃e,es[j]?=some e∧m.key=e.1∧Rr E e.2.1 m.val∧m.born=e.2.2:=fun j m hm=>by
  have hj:=(cBz.1 hm).1;have he:es[j]?=some (es[j]'(by rw[hr.1];exact hj)):=cEn _;exact ⟨_,he,hr.2 j _ m he hm⟩
 have hgood: ∀m∈vs,goodB P k m.key=true:=fun m hm=>by
  obtain ⟨j,hj⟩:=cAe hm;obtain ⟨e,he,hk,_⟩:=hat j m hj;rw[hk];exact h1.2 e (cDb he)
 refine ⟨fun em=>K.check w em h1.1,K.stays w h1.1,?_⟩;cases hm:s5 x es 0 with
 |none=>rw[hm] at h2;cases h2
 |some l=>
  rw[hm] at h2;have hf:=aCu hm;rcases K.find w h1.1 vs hgood with ⟨q1,q2⟩|⟨j,m,q1,q2,q3⟩
  ·match l,h2 with
   | [],h2=>cases h2;exact q1
   | [p],h2=>
    exfalso;obtain ⟨j,e,he,hx⟩:=xW hm p b7;have hj:=(cBz.1 he).1;have hv:vs[j]?=some (vs[j]'(by rw[← hr.1];exact hj)):=cEn _;obtain ⟨k1,_⟩:=hr.2 j e _ he hv;exact q2 _ (cDb hv) (k1.trans hx)
  obtain ⟨e,he,hk,hv,hb⟩:=hat j m q2;have hin:=(hf j e he).1 (by rw[← hk];exact q3);rw[cFa] at hin
  match l,h2 with
  | [],h2=>cases hin
  | [p],h2=>
   cases h2;rw[cBq] at hin;subst hin;exact ⟨m,q1,q2,q3,hv,hb⟩
end
end
end Go.Rv
namespace Go.Sg
open Go.RowKit
open Go.Rv (goodB KeyRun keyRun_of)
section
variable {P:Program} {nt:Nat} {ρ:aV} {ops:Array Oper}
theorem aVi {es:List (Value×Value)} {vs:List MapEntry} (q3:vs.map (fun (m:MapEntry)=>(m.key,m.val))=es) {j:Nat} {m:MapEntry} (f2:vs[j]?=some m):es=es.take j++(m.key,m.val)::es.drop (j+1):=by
 subst q3;have hj:j<vs.length:=by
  rcases cBd j vs.length with h|h
  ·exact h
  rw[cAw h] at f2;cases f2
 have hj2:(vs.map (fun (m:MapEntry)=>(m.key,m.val)))[j]?=some (m.key,m.val):=by rw[cDj,f2];rfl
 have hlt:j<(vs.map (fun (m:MapEntry)=>(m.key,m.val))).length:=by simp[hj]
 rw[cEn hlt] at hj2;have:=cCo j (vs.map (fun (m:MapEntry)=>(m.key,m.val)));rw[cEo hlt,bZr hj2] at this;exact this.symm
end
end Go.Sg
namespace Go.Sg
open Go.RowKit
open Go.Rv (KeyRun keyRun_of goodB)
theorem bJt {w:World} {I:Nat→Prop} {A:cY} {d:DV} {v:Value} (ok:Bool) (h:bN w I A d v) (b:Bool):bN w I A (bif ok then .tup [d,.v (.bool b)] else d) (bif ok then .tuple #[v,.bool b] else v):=by
 cases ok with
 |false=>exact h
 |true=>
  refine .tup A _ _ rfl fun j d' u hd hu=>?_
  match j with
  |0=>simp at hd hu;subst hd;subst hu;exact h
  |1=>simp at hd hu;subst hd;subst hu;exact .v A _
  |j+2=>simp at hd
section
variable {P:Program} {nt:Nat} {ρ:aV} {ops:Array Oper}
theorem aPw {o:Oper} {K:aV→Prop} {t:TypeId} {x k:Operand} {s:Nat} {kt e:TypeId} {i:TypeInfo} {z kv:Value} {ok:Bool} {es:List (Value×Value)} (hop:o.op=.lookup t x k ok) (hg:o.guard=none) (ho:dP nt o=true) (hd:d3 nt o=true)
  (hx:ev ρ x=.mr s) (hes:ρ s=.mo es) (hk:gd (ev ρ k)) (hkv: ∀w I A v,bN w I A (un (ev ρ k)) v→v=kv) (u1:P.underlying t=some (.map kt e)) (u3:P.info? e=some i) (u4:i.zero=some z)
  (hgk:goodB P kt kv=true) (hges: ∀e∈es,goodB P kt e.1=true)
  {dz:DV} (hz: ∀w I A,bN w I A dz z) (hN:(∀e∈es,e.1≠kv)→K (putD ρ o.dst (bif ok then .tup [dz,.v (.bool false)] else dz))) (hS: ∀es1 v es2,es=es1++(kv,v)::es2→ ∃dv,(∀w I A,bN w I A dv v)∧K (putD ρ o.dst (bif ok then .tup [dv,.v (.bool true)] else dv))):OW P nt ops o K ρ:=by
 refine fU hg fun I A a w hs=>?_;have hxr:=hs.opd x (bO ho (by simp[hop,Op.operands])) (by rw[hx];trivial);have hkr:=hkv _ _ _ _ (hs.opd k (bO ho (by simp[hop,Op.operands])) hk);rw[hx] at hxr;have hxr:bN w I A (.mr s) (a.eval x):=hxr;generalize hav:a.eval x=av at*;cases hxr with
 |mr _ _ g c hA=>
  have hown:=hs.osim.own s;rw[hes] at hown;obtain ⟨g',c',vs,cl,q1,q2,q3⟩:=hown;rw[hA] at q1;simp only[cAx,bZo] at q1;obtain ⟨rfl,rfl⟩:=q1;have kr:KeyRun P kt:=keyRun_of hgk;have hvs: ∀e∈vs,goodB P kt e.key=true:=fun m hm=>hges (m.key,m.val) (by rw[← q3];exact cAy.2 ⟨m,hm,rfl⟩);have hck:=kr.check w (vs.toArray.isEmpty) hgk;rcases kr.find w hgk vs hvs with ⟨f1,f2⟩|⟨j,m,f1,f2,f3⟩
  ·refine ⟨bif ok then .tuple #[z,.bool false] else z,w,I,A,_,?_,hs.putV hd (bJt ok (hz w I A) false),e8.refl _ _ _,hN fun e he=>?_⟩
   ·simp only[execOp,hop,hav,hkr,Instr.lookup,Sem.run_bind,run_underlying u1,MapKept.run_getObj_map q2,Result.andThen_ok,Sem.run_pure,hck];cases ok<;>simp[f1,zeroValue,typeInfo,u3,u4]
   rw[← q3] at he;obtain ⟨m,hm,rfl⟩:=cAy.1 he;exact f2 m hm
  have hsp:es=es.take j++(kv,m.val)::es.drop (j+1):=by
   rw[← q3,← f3];have hj:j<vs.length:=by
    rcases cBd j vs.length with h|h
    ·exact h
    rw[cAw h] at f2;cases f2
   have hj2:(vs.map (fun (m:MapEntry)=>(m.key,m.val)))[j]?=some (m.key,m.val):=by rw[cDj,f2];rfl
   have hlt:j<(vs.map (fun (m:MapEntry)=>(m.key,m.val))).length:=by simp[hj]
   rw[cEn hlt] at hj2;have:=cCo j (vs.map (fun (m:MapEntry)=>(m.key,m.val)));rw[cEo hlt,bZr hj2] at this;exact this.symm
  obtain ⟨dv,hdv,hKv⟩:=hS _ _ _ hsp;refine ⟨bif ok then .tuple #[m.val,.bool true] else m.val,w,I,A,_,?_,hs.putV hd (bJt ok (hdv w I A) true),e8.refl _ _ _,hKv⟩;simp only[execOp,hop,hav,hkr,Instr.lookup,Sem.run_bind,run_underlying u1,MapKept.run_getObj_map q2,Result.andThen_ok,Sem.run_pure,hck];cases ok<;>simp[f1]
theorem aNq {o:Oper} {K:aV→Prop} {t:TypeId} {x k y:Operand} {s:Nat} {kt e:TypeId} {kv v:Value} {es:List (Value×Value)} (hop:o.op=.mapUpdate t x k y∨o.op=.insert t x k y) (hg:o.guard=none) (hdst:o.dst=none) (ho:dP nt o=true)
  (hx:ev ρ x=.mr s) (hes:ρ s=.mo es) (hk:gd (ev ρ k)) (hkv: ∀w I A v,bN w I A (un (ev ρ k)) v→v=kv) (hyg:gd (ev ρ y)) (hy: ∀w I A u,bN w I A (un (ev ρ y)) u→u=v) (u1:P.underlying t=some (.map kt e))
  (hgk:goodB P kt kv=true) (hges: ∀e∈es,goodB P kt e.1=true)
  (hN:(∀e∈es,e.1≠kv)→K (set ρ s (.mo (es++[(kv,v)])))) (hS: ∀es1 u es2,es=es1++(kv,u)::es2→K (set ρ s (.mo (es1++(kv,v)::es2)))):OW P nt ops o K ρ:=by
 refine z6 hg fun I A a w hs=>?_;have hmem: ∀q,q=x∨q=k∨q=y→q∈o.op.operands:=fun q hq=>by rcases hop with h|h<;>rw[h]<;>simp[Op.operands]<;>rcases hq with rfl|rfl|rfl<;>simp
 have hxr:=hs.opd x (bO ho (hmem x (.inl rfl))) (by rw[hx];trivial);have hkr:=hkv _ _ _ _ (hs.opd k (bO ho (hmem k (.inr (.inl rfl)))) hk);have hyr:=hy _ _ _ _ (hs.opd y (bO ho (hmem y (.inr (.inr rfl)))) hyg);rw[hx] at hxr;have hxr:bN w I A (.mr s) (a.eval x):=hxr;generalize hav:a.eval x=av at*;have hyv:=hyr;cases hxr with
 |mr _ _ g c hA=>
  have hown:=hs.osim.own s;rw[hes] at hown;obtain ⟨g',c',vs,cl,q1,q2,q3⟩:=hown;rw[hA] at q1;simp only[cAx,bZo] at q1;obtain ⟨rfl,rfl⟩:=q1;have kr:KeyRun P kt:=keyRun_of hgk;have hvs: ∀e∈vs,goodB P kt e.key=true:=fun m hm=>hges (m.key,m.val) (by rw[← q3];exact cAy.2 ⟨m,hm,rfl⟩);have hck:=kr.check w false hgk;have hst:=kr.stays w hgk;rcases kr.find w hgk vs hvs with ⟨f1,f2⟩|⟨j,m,f1,f2,f3⟩
  ·have hset:=MapKept.heap_set (o':=.map (vs++[({key:=kv,val:=v,born:=cl}:MapEntry)]).toArray (cl+1)) q2;refine ⟨{w with heap:=w.heap.setIfInBounds g (.map (vs++[({key:=kv,val:=v,born:=cl}:MapEntry)]).toArray (cl+1))},I,A,_,?_,?_,e8.turnO hA hset.2 b7 rfl ⟨rfl,cCq _⟩ rfl,hN fun e he=>?_⟩
   ·rcases hop with h|h<;>simp[execOp,h,hav,hkr,hyv,Instr.mapUpdate,run_underlying u1,MapKept.run_getObj_map q2,hck,f1,MapKept.run_setObj_map _ q2]
   ·rw[hdst];refine hs.turnO hA hset.2 b7 (fun x' hx'=>?_) ⟨g,c,_,_,hA,hset.1,by rw[cAl,q3];rfl⟩ fun _=>rfl;rw[hes] at hx';exact hx'
   rw[← q3] at he;obtain ⟨m,hm,rfl⟩:=cAy.1 he;exact f2 m hm
  have hspl:=aVi q3 f2;rw[f3] at hspl;have hjl:j<vs.length:=by
   rcases cBd j vs.length with h|h
   ·exact h
   rw[cAw h] at f2;cases f2
  have hset:=MapKept.heap_set (o':=.map (vs.toArray.modify j fun e=>{e with key:=kv,val:=v}) cl) q2;refine ⟨{w with heap:=w.heap.setIfInBounds g (.map (vs.toArray.modify j fun e=>{e with key:=kv,val:=v}) cl)},I,A,_,?_,?_,e8.turnO hA hset.2 b7 rfl ⟨rfl,cCq _⟩ rfl,hS _ _ _ hspl⟩
  ·have hkey:((vs.toArray[j]?).map (·.key)).getD kv=kv:=by simp[f2,f3]
   rcases hop with h|h<;>simp[execOp,h,hav,hkr,hyv,Instr.mapUpdate,run_underlying u1,MapKept.run_getObj_map q2,hck,f1,f2,f3,hst,MapKept.run_setObj_map _ q2]
  rw[hdst];refine hs.turnO hA hset.2 b7 (fun x' hx'=>?_) ⟨g,c,(vs.modify j fun e=>{e with key:=kv,val:=v}),cl,hA,by rw[hset.1];congr 2;simp,?_⟩ fun _=>rfl
  ·rw[hes] at hx';exact hx'
  apply List.ext_getElem?;intro q;rw[cDj,List.getElem?_modify];have hq:es[q]?=(vs[q]?).map fun (m:MapEntry)=>(m.key,m.val):=by rw[← q3,cDj]
  have hjes:j≤es.length:=by rw[← q3];simp;omega
  rcases Nat.lt_trichotomy q j with h1|h1|h1
  ·rw[cAf (by rw[cCw];omega),cEl,if_pos h1,hq];cases vs[q]? with
   |none=>rfl
   |some m'=>simp[show j≠q by omega]
  ·subst h1;rw[cAq (by rw[cCw];omega),cCw,cBx hjes,Nat.sub_self,List.getElem?_cons_zero,f2];simp
  rw[cAq (by rw[cCw];omega),cCw,cBx hjes];obtain ⟨r,hr⟩: ∃r,q-j=r+1:=⟨q-j-1,by omega⟩;rw[hr,cAa,cCg,show j+1+r=q by omega,hq];cases vs[q]? with
  |none=>rfl
  |some m'=>simp[show j≠q by omega]
structure KE (α:Type) where
 val:α→Value
 dv:α→DV
 inj: ∀a b,val a=val b→a=b
 to: ∀a w I A v,bN w I A (dv a) v→v=val a
 of: ∀a w I A,bN w I A (dv a) (val a)
variable {α β:Type}
def esT (k:KE α) (v:KE β) (M:List (α×β)):List (Value×Value):=M.map fun p=>(k.val p.1,v.val p.2)
theorem yE {k:KE α} {v:KE β}: ∀{M:List (α×β)} {es1 es2:List (Value×Value)} {a:α} {u:Value},esT k v M=es1++(k.val a,u)::es2→ ∃M1 b M2,M=M1++(a,b)::M2∧es1=esT k v M1∧u=v.val b∧es2=esT k v M2
 | [],[],_,_,_,h=>by cases h
 | [],_::_,_,_,_,h=>by cases h
 |p::M,[],es2,a,u,h=>by
  simp only[esT,cEb,cEz,List.cons.injEq,bZo] at h;obtain ⟨⟨h1,h2⟩,h3⟩:=h;have:=k.inj _ _ h1;subst this;exact ⟨[],p.2,M,rfl,rfl,h2.symm,h3.symm⟩
 |p::M,e::es1,es2,a,u,h=>by
  simp only[esT,cEb,cEd,List.cons.injEq] at h;obtain ⟨M1,b,M2,rfl,h2,h3,h4⟩:=yE (k:=k) (v:=v) h.2;exact ⟨p::M1,b,M2,rfl,by rw[h2,← h.1];rfl,h3,h4⟩
theorem aCr {M1 M2:List (α×β)} {a:α} {b:β} (h:((M1++(a,b)::M2).map (·.1)).Nodup): ∀p∈M1,p.1≠a:=fun p hp e=>by
 rw[cAl,cCx] at h;exact h.2.2 p.1 (cAy.2 ⟨p,hp,rfl⟩) a b7 e
variable [DecidableEq α]
def xI:List (α×β)→α→Option β
 | [],_=>none
 |p::M,a=>if p.1=a then some p.2 else xI M a
def aKs:List (α×β)→α→β→List (α×β)
 | [],a,b=>[(a,b)]
 |p::M,a,b=>if p.1=a then (a,b)::M else p::aKs M a b
theorem aUa {M:List (α×β)} {a:α} (h: ∀p∈M,p.1≠a):xI M a=none:=by
 induction M with
 |nil=>rfl
 |cons p M ih=>rw[xI,if_neg (h p b7),ih fun q hq=>h q (by simp[hq])]
theorem aNr {M1 M2:List (α×β)} {a:α} {b:β} (h: ∀p∈M1,p.1≠a):xI (M1++(a,b)::M2) a=some b:=by
 induction M1 with
 |nil=>rw[cEz,xI,if_pos rfl]
 |cons p M ih=>rw[cEd,xI,if_neg (h p b7),ih fun q hq=>h q (by simp[hq])]
theorem aMx {M:List (α×β)} {a:α} {b:β} (h: ∀p∈M,p.1≠a):aKs M a b=M++[(a,b)]:=by
 induction M with
 |nil=>rfl
 |cons p M ih=>rw[aKs,if_neg (h p b7),ih fun q hq=>h q (by simp[hq])];rfl
theorem aOk {M1 M2:List (α×β)} {a:α} {b c:β} (h: ∀p∈M1,p.1≠a):aKs (M1++(a,c)::M2) a b=M1++(a,b)::M2:=by
 induction M1 with
 |nil=>rw[cEz,aKs,if_pos rfl,cEz]
 |cons p M ih=>rw[cEd,aKs,if_neg (h p b7),ih fun q hq=>h q (by simp[hq])];rfl
theorem aZk (k:KE α) (v:KE β) {K:aV→Prop} {o:Oper} {t:TypeId} {x kk:Operand} {s:Nat} {kt e:TypeId} {i:TypeInfo} {ok:Bool} {M:List (α×β)} {a:α} {zb:β} (hop:o.op=.lookup t x kk ok) (hg:o.guard=none) (ho:dP nt o=true) (hd:d3 nt o=true)
  (hx:ev ρ x=.mr s) (hes:ρ s=.mo (esT k v M)) (hk:ev ρ kk=k.dv a) (hkg:gd (k.dv a)) (hku:un (k.dv a)=k.dv a) (u1:P.underlying t=some (.map kt e)) (u3:P.info? e=some i) (u4:i.zero=some (v.val zb))
  (hga:goodB P kt (k.val a)=true) (hgM: ∀p∈M,goodB P kt (k.val p.1)=true) (hnd:(M.map (·.1)).Nodup)
  (hK:K (putD ρ o.dst (bif ok then .tup [v.dv ((xI M a).getD zb),.v (.bool (xI M a).isSome)] else v.dv ((xI M a).getD zb)))):OW P nt ops o K ρ:=by
 refine aPw hop hg ho hd hx hes (by rw[hk];exact hkg) (fun w I A u hr=>k.to a w I A u (by rw[hk,hku] at hr;exact hr)) u1 u3 u4 hga (fun e he=>?_) (v.of zb) (fun hN=>?_) fun es1 u es2 hs=>?_
 ·obtain ⟨p,hp,rfl⟩:=cAy.1 he;exact hgM p hp
 ·rw[aUa fun p hp e=>hN _ (cAy.2 ⟨p,hp,rfl⟩) (by rw[e])] at hK;exact hK
 obtain ⟨M1,b,M2,rfl,_,rfl,_⟩:=yE hs;rw[aNr (aCr hnd)] at hK;exact ⟨v.dv b,v.of b,hK⟩
theorem bEk (k:KE α) (v:KE β) {K:aV→Prop} {o:Oper} {t:TypeId} {x kk y:Operand} {s:Nat} {kt e:TypeId} {M:List (α×β)} {a:α} {b:β} (hop:o.op=.mapUpdate t x kk y∨o.op=.insert t x kk y) (hg:o.guard=none) (hdst:o.dst=none) (ho:dP nt o=true)
  (hx:ev ρ x=.mr s) (hes:ρ s=.mo (esT k v M)) (hk:ev ρ kk=k.dv a) (hkg:gd (k.dv a)) (hku:un (k.dv a)=k.dv a) (hy:ev ρ y=v.dv b) (hyg:gd (v.dv b)) (hyu:un (v.dv b)=v.dv b) (u1:P.underlying t=some (.map kt e))
  (hga:goodB P kt (k.val a)=true) (hgM: ∀p∈M,goodB P kt (k.val p.1)=true) (hnd:(M.map (·.1)).Nodup) (hK:K (set ρ s (.mo (esT k v (aKs M a b))))):OW P nt ops o K ρ:=by
 refine aNq hop hg hdst ho hx hes (by rw[hk];exact hkg) (fun w I A u hr=>k.to a w I A u (by rw[hk,hku] at hr;exact hr)) (by rw[hy];exact hyg) (fun w I A u hr=>v.to b w I A u (by rw[hy,hyu] at hr;exact hr)) u1 hga (fun e he=>?_) (fun hN=>?_) fun es1 u es2 hs=>?_
 ·obtain ⟨p,hp,rfl⟩:=cAy.1 he;exact hgM p hp
 ·rw[aMx fun p hp e=>hN _ (cAy.2 ⟨p,hp,rfl⟩) (by rw[e])] at hK;unfold esT at hK;rw[cAl] at hK;exact hK
 obtain ⟨M1,c,M2,rfl,rfl,rfl,rfl⟩:=yE hs;rw[aOk (aCr hnd)] at hK;unfold esT at hK;rw[cAl] at hK;exact hK
def cLt:KE ByteArray:=⟨fun s=>.string s,fun s=>.v (.string s),fun _ _ h=>by cases h;rfl,fun a w I A v h=>(by cases h;rfl),fun a w I A=>.v A _⟩
def aQf:KE Int:=⟨fun n=>.int .i64 n,fun n=>.v (.int .i64 n),fun _ _ h=>by cases h;rfl,fun a w I A v h=>(by cases h;rfl),fun a w I A=>.v A _⟩
def aJg:KE Bool:=⟨fun b=>.bool b,fun b=>.v (.bool b),fun _ _ h=>by cases h;rfl,fun a w I A v h=>(by cases h;rfl),fun a w I A=>.v A _⟩
end
end Go.Sg
