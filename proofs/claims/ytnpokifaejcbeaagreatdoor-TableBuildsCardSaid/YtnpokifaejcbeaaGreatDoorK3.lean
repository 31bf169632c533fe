/- Several texts as one. -/
import Derived.Test.YtnpokifaejcbeaaGreatDoorK1
import Derived.KernelRfl
import Derived.Lib.SlicesCompact
import Derived.Sort.Grow
import Derived.Test.YtnpokifaejcbeaaGreatDoorProg
set_option linter.unusedVariables false
set_option linter.unusedSimpArgs false
namespace Go.Sg
open Go.Proofs
theorem bYd : kU Tryz.prog 22 = some (9, 1, 16) := by kernel_rfl
theorem bXs : kU Tryz.prog 23 = some (91, 7, 64) := by kernel_rfl
theorem bXc : kU Tryz.prog 24 = some (82, 4, 32) := by kernel_rfl
theorem bWd : kU Tryz.prog 25 = some (51, 4, 40) := by kernel_rfl
theorem bZq : kU Tryz.prog 31 = some (46, 14, 264) := by kernel_rfl
theorem cAw : kU Tryz.prog 32 = some (3, 1, 8) := by kernel_rfl
theorem cCl : kU Tryz.prog 42 = some (85, 3, 24) := by kernel_rfl
theorem bZh : kU Tryz.prog 43 = some (68, 2, 16) := by kernel_rfl
theorem cAe : kU Tryz.prog 44 = some (49, 2, 16) := by kernel_rfl
theorem cBs : kU Tryz.prog 54 = some (42, 1, 24) := by kernel_rfl
theorem bRz : kU Tryz.prog 127 = some (43, 1, 24) := by kernel_rfl
theorem bOv : kU Tryz.prog 161 = some (32, 1, 24) := by kernel_rfl
theorem bTw : kU Tryz.prog 174 = some (22, 1, 24) := by kernel_rfl
theorem ld3 : eZ Tryz.prog 3 = some (none) := by kernel_rfl
theorem ld4 : eZ Tryz.prog 4 = some (none) := by kernel_rfl
theorem ld9 : eZ Tryz.prog 9 = some (none) := by kernel_rfl
theorem cAb : eZ Tryz.prog 22 = some (none) := by kernel_rfl
theorem bXo : eZ Tryz.prog 23 = some (none) := by kernel_rfl
theorem cAy : eZ Tryz.prog 24 = some (none) := by kernel_rfl
theorem cBn : eZ Tryz.prog 25 = some (none) := by kernel_rfl
theorem bZa : eZ Tryz.prog 26 = some (none) := by kernel_rfl
theorem bYr : eZ Tryz.prog 28 = some (some (6)) := by kernel_rfl
theorem bZk : eZ Tryz.prog 31 = some (none) := by kernel_rfl
theorem cAv : eZ Tryz.prog 32 = some (none) := by kernel_rfl
theorem bYa : eZ Tryz.prog 34 = some (some (5)) := by kernel_rfl
theorem bYj : eZ Tryz.prog 42 = some (none) := by kernel_rfl
theorem bWx : eZ Tryz.prog 43 = some (none) := by kernel_rfl
theorem cBg : eZ Tryz.prog 44 = some (none) := by kernel_rfl
theorem bZw : eZ Tryz.prog 46 = some (some (14)) := by kernel_rfl
theorem cBc : eZ Tryz.prog 49 = some (some (2)) := by kernel_rfl
theorem cBf : eZ Tryz.prog 51 = some (some (4)) := by kernel_rfl
theorem bZx : eZ Tryz.prog 54 = some (none) := by kernel_rfl
theorem bZt : eZ Tryz.prog 68 = some (some (2)) := by kernel_rfl
theorem bVv : eZ Tryz.prog 82 = some (some (4)) := by kernel_rfl
theorem bZc : eZ Tryz.prog 85 = some (some (3)) := by kernel_rfl
theorem bZn : eZ Tryz.prog 91 = some (some (7)) := by kernel_rfl
theorem bQj : eZ Tryz.prog 179 = some (some (3)) := by kernel_rfl
theorem bQl : eZ Tryz.prog 184 = some (some (40)) := by kernel_rfl
theorem bPp : eZ Tryz.prog 199 = some (some (3)) := by kernel_rfl
theorem cBb : fT Tryz.prog 22 = some (none, 1) := by kernel_rfl
theorem bWc : fT Tryz.prog 23 = some (none, 7) := by kernel_rfl
theorem bXr : fT Tryz.prog 24 = some (none, 4) := by kernel_rfl
theorem bVr : fT Tryz.prog 25 = some (none, 4) := by kernel_rfl
theorem bYm : fT Tryz.prog 26 = some (none, 3) := by kernel_rfl
theorem cBr : fT Tryz.prog 31 = some (none, 14) := by kernel_rfl
theorem cCe : fT Tryz.prog 32 = some (none, 1) := by kernel_rfl
theorem bXi : fT Tryz.prog 42 = some (none, 3) := by kernel_rfl
theorem bWg : fT Tryz.prog 43 = some (none, 2) := by kernel_rfl
theorem cBy : fT Tryz.prog 44 = some (none, 2) := by kernel_rfl
theorem cAj : fT Tryz.prog 54 = some (none, 1) := by kernel_rfl
theorem bTk : fT Tryz.prog 121 = some (some (24), 1) := by kernel_rfl
theorem bTm : fT Tryz.prog 127 = some (none, 1) := by kernel_rfl
theorem bRu : fT Tryz.prog 161 = some (none, 1) := by kernel_rfl
theorem bQr : fT Tryz.prog 174 = some (none, 1) := by kernel_rfl
theorem bPb : fT Tryz.prog 185 = some (some (4), 1) := by kernel_rfl
theorem bQw : fT Tryz.prog 199 = some (some (3), 1) := by kernel_rfl
theorem tk3 : tk Tryz.prog 3 = 4 := by kernel_rfl
theorem tk5 : tk Tryz.prog 5 = 4 := by kernel_rfl
theorem tk9 : tk Tryz.prog 9 = 1 := by kernel_rfl
theorem cCd : tk Tryz.prog 21 = 4 := by kernel_rfl
theorem bWk : tk Tryz.prog 22 = 2 := by kernel_rfl
theorem bWy : tk Tryz.prog 23 = 2 := by kernel_rfl
theorem bYi : tk Tryz.prog 24 = 2 := by kernel_rfl
theorem bVy : tk Tryz.prog 25 = 2 := by kernel_rfl
theorem bYc : tk Tryz.prog 26 = 2 := by kernel_rfl
theorem bWn : tk Tryz.prog 31 = 2 := by kernel_rfl
theorem bVp : tk Tryz.prog 32 = 2 := by kernel_rfl
theorem cCa : tk Tryz.prog 35 = 4 := by kernel_rfl
theorem bWo : tk Tryz.prog 42 = 2 := by kernel_rfl
theorem bWm : tk Tryz.prog 43 = 2 := by kernel_rfl
theorem cBq : tk Tryz.prog 44 = 2 := by kernel_rfl
theorem cCh : tk Tryz.prog 49 = 0 := by kernel_rfl
theorem bVx : tk Tryz.prog 54 = 2 := by kernel_rfl
theorem cAl : tk Tryz.prog 68 = 0 := by kernel_rfl
theorem bTn : tk Tryz.prog 127 = 2 := by kernel_rfl
theorem bQq : tk Tryz.prog 161 = 2 := by kernel_rfl
theorem bTu : tk Tryz.prog 174 = 2 := by kernel_rfl
theorem un3 : (Tryz.prog.underlying 3).isSome = true := by kernel_rfl
theorem ik5 : z7 Tryz.prog 5 = some (.u8) := by kernel_rfl
theorem zc3 : fD Tryz.prog 3 = some ([.int .i64 0]) := by kernel_rfl
theorem zc4 : fD Tryz.prog 4 = some ([.bool false]) := by kernel_rfl
theorem zc9 : fD Tryz.prog 9 = some ([.string ⟨#[]⟩]) := by kernel_rfl
theorem bZl : fD Tryz.prog 22 = some ([.slice none 0 0]) := by kernel_rfl
theorem bXt : fD Tryz.prog 28 = some ([.string ⟨#[]⟩, .slice none 0 0, .slice none 0 0, .slice none 0 0, .slice none 0 0, .slice none 0 0]) := by kernel_rfl
theorem bYb : fD Tryz.prog 32 = some ([.slice none 0 0]) := by kernel_rfl
theorem cAd : fD Tryz.prog 34 = some ([.slice none 0 0, .slice none 0 0, .slice none 0 0, .int .i64 0, .int .i64 0]) := by kernel_rfl
theorem bXj : fD Tryz.prog 42 = some ([.slice none 0 0]) := by kernel_rfl
theorem bZz : fD Tryz.prog 43 = some ([.slice none 0 0]) := by kernel_rfl
theorem bXm : fD Tryz.prog 46 = some ([.string ⟨#[]⟩, .int .i64 0, .int .i64 0, .slice none 0 0, .slice none 0 0, .slice none 0 0, .int .i64 0, .int .i64 0, .slice none 0 0, .slice none 0 0, .slice none 0 0, .slice none 0 0, .slice none 0 0, .slice none 0 0]) := by kernel_rfl
theorem bZr : fD Tryz.prog 49 = some ([.int .i64 0, .int .i64 0]) := by kernel_rfl
theorem cBk : fD Tryz.prog 51 = some ([.string ⟨#[]⟩, .int .i64 0, .int .i64 0, .int .i64 0]) := by kernel_rfl
theorem cCf : fD Tryz.prog 68 = some ([.int .i64 0, .int .i64 0]) := by kernel_rfl
theorem cBd : fD Tryz.prog 82 = some ([.int .i64 0, .int .i64 0, .int .i64 0, .int .i64 0]) := by kernel_rfl
theorem cCb : fD Tryz.prog 85 = some ([.int .i64 0, .int .i64 0, .int .i64 0]) := by kernel_rfl
theorem bXa : fD Tryz.prog 91 = some ([.string ⟨#[]⟩, .int .i64 0, .int .i64 0, .int .i64 0, .int .i64 0, .int .i64 0, .int .i64 0]) := by kernel_rfl
theorem bRl : fD Tryz.prog 121 = some ([.bool false, .bool false, .bool false, .bool false, .bool false, .bool false, .bool false, .bool false, .bool false, .bool false, .bool false, .bool false, .bool false, .bool false, .bool false, .bool false, .bool false, .bool false, .bool false, .bool false, .bool false, .bool false, .bool false, .bool false]) := by kernel_rfl
theorem bUw : fD Tryz.prog 138 = some ([.string ⟨#[]⟩, .slice none 0 0, .slice none 0 0, .slice none 0 0, .slice none 0 0, .slice none 0 0, .slice none 0 0]) := by kernel_rfl
theorem bRs : fD Tryz.prog 154 = some ([.slice none 0 0]) := by kernel_rfl
theorem bSu : fD Tryz.prog 179 = some ([.int .i64 0, .int .i64 0, .int .i64 0]) := by kernel_rfl
theorem bRq : fD Tryz.prog 183 = some ([.int .i64 0, .int .i64 0, .int .i64 0, .int .i64 0]) := by kernel_rfl
theorem bRt : fD Tryz.prog 188 = some ([.int .i64 0, .int .i64 0]) := by kernel_rfl
theorem bVb : fD Tryz.prog 199 = some ([.slice none 0 0, .slice none 0 0, .slice none 0 0]) := by kernel_rfl
theorem sz3 : jA Tryz.prog 3 = some (1) := by kernel_rfl
theorem sz4 : jA Tryz.prog 4 = some (1) := by kernel_rfl
theorem sz9 : jA Tryz.prog 9 = some (1) := by kernel_rfl
theorem bWi : jA Tryz.prog 22 = some (1) := by kernel_rfl
theorem bVq : jA Tryz.prog 23 = some (1) := by kernel_rfl
theorem bYk : jA Tryz.prog 24 = some (1) := by kernel_rfl
theorem bZu : jA Tryz.prog 25 = some (1) := by kernel_rfl
theorem bXp : jA Tryz.prog 28 = some (6) := by kernel_rfl
theorem cAp : jA Tryz.prog 31 = some (1) := by kernel_rfl
theorem bXg : jA Tryz.prog 32 = some (1) := by kernel_rfl
theorem bYu : jA Tryz.prog 34 = some (5) := by kernel_rfl
theorem bXv : jA Tryz.prog 42 = some (1) := by kernel_rfl
theorem bZd : jA Tryz.prog 43 = some (1) := by kernel_rfl
theorem bZo : jA Tryz.prog 44 = some (1) := by kernel_rfl
theorem bXn : jA Tryz.prog 46 = some (14) := by kernel_rfl
theorem bXy : jA Tryz.prog 49 = some (2) := by kernel_rfl
theorem cAf : jA Tryz.prog 51 = some (4) := by kernel_rfl
theorem bXd : jA Tryz.prog 54 = some (1) := by kernel_rfl
theorem cAs : jA Tryz.prog 68 = some (2) := by kernel_rfl
theorem bWw : jA Tryz.prog 82 = some (4) := by kernel_rfl
theorem bYs : jA Tryz.prog 85 = some (3) := by kernel_rfl
theorem cAx : jA Tryz.prog 91 = some (7) := by kernel_rfl
theorem bQz : jA Tryz.prog 138 = some (7) := by kernel_rfl
theorem bTc : jA Tryz.prog 179 = some (3) := by kernel_rfl
theorem bRd : jA Tryz.prog 183 = some (4) := by kernel_rfl
theorem bQv : jA Tryz.prog 199 = some (3) := by kernel_rfl
theorem hb9 : aQ Tryz.prog 9 = true := by kernel_rfl
theorem bYx : aQ Tryz.prog 10 = true := by kernel_rfl
theorem bXf : aQ Tryz.prog 11 = true := by kernel_rfl
theorem cBl : aQ Tryz.prog 12 = true := by kernel_rfl
theorem bXk : aQ Tryz.prog 13 = true := by kernel_rfl
theorem cBa : aQ Tryz.prog 15 = true := by kernel_rfl
theorem cBx : aQ Tryz.prog 17 = true := by kernel_rfl
theorem cAq : aQ Tryz.prog 18 = true := by kernel_rfl
theorem bXu : aQ Tryz.prog 21 = true := by kernel_rfl
theorem cAu : aQ Tryz.prog 22 = true := by kernel_rfl
theorem bZi : aQ Tryz.prog 23 = true := by kernel_rfl
theorem bWa : aQ Tryz.prog 25 = true := by kernel_rfl
theorem bYv : aQ Tryz.prog 27 = true := by kernel_rfl
theorem bVu : aQ Tryz.prog 29 = true := by kernel_rfl
theorem cCj : aQ Tryz.prog 30 = true := by kernel_rfl
theorem cCm : aQ Tryz.prog 33 = true := by kernel_rfl
theorem bZj : aQ Tryz.prog 34 = true := by kernel_rfl
theorem cAc : aQ Tryz.prog 35 = true := by kernel_rfl
theorem cCg : aQ Tryz.prog 36 = true := by kernel_rfl
theorem cBz : aQ Tryz.prog 37 = true := by kernel_rfl
theorem cAo : aQ Tryz.prog 38 = true := by kernel_rfl
theorem bYz : aQ Tryz.prog 39 = true := by kernel_rfl
theorem bXz : aQ Tryz.prog 40 = true := by kernel_rfl
theorem bYn : aQ Tryz.prog 41 = true := by kernel_rfl
theorem bVz : aQ Tryz.prog 42 = true := by kernel_rfl
theorem cBi : aQ Tryz.prog 43 = true := by kernel_rfl
theorem bVn : aQ Tryz.prog 44 = true := by kernel_rfl
theorem bWu : aQ Tryz.prog 45 = true := by kernel_rfl
theorem bZm : aQ Tryz.prog 46 = true := by kernel_rfl
theorem bWt : aQ Tryz.prog 47 = true := by kernel_rfl
theorem bZg : aQ Tryz.prog 48 = true := by kernel_rfl
theorem cBv : aQ Tryz.prog 52 = true := by kernel_rfl
theorem bWz : aQ Tryz.prog 54 = true := by kernel_rfl
theorem cAm : aQ Tryz.prog 55 = true := by kernel_rfl
theorem cAa : aQ Tryz.prog 56 = true := by kernel_rfl
theorem bZy : aQ Tryz.prog 57 = true := by kernel_rfl
theorem bVo : aQ Tryz.prog 59 = true := by kernel_rfl
theorem bXl : aQ Tryz.prog 60 = true := by kernel_rfl
theorem bXq : aQ Tryz.prog 61 = true := by kernel_rfl
theorem bZp : aQ Tryz.prog 62 = true := by kernel_rfl
theorem bWf : aQ Tryz.prog 63 = true := by kernel_rfl
theorem bVw : aQ Tryz.prog 64 = true := by kernel_rfl
theorem bYe : aQ Tryz.prog 66 = true := by kernel_rfl
theorem cBt : aQ Tryz.prog 67 = true := by kernel_rfl
theorem bWh : aQ Tryz.prog 72 = true := by kernel_rfl
theorem cAg : aQ Tryz.prog 73 = true := by kernel_rfl
theorem cAr : aQ Tryz.prog 74 = true := by kernel_rfl
theorem bVt : aQ Tryz.prog 75 = true := by kernel_rfl
theorem cAh : aQ Tryz.prog 76 = true := by kernel_rfl
theorem bXe : aQ Tryz.prog 77 = true := by kernel_rfl
theorem cCk : aQ Tryz.prog 78 = true := by kernel_rfl
theorem bYt : aQ Tryz.prog 81 = true := by kernel_rfl
theorem bYf : aQ Tryz.prog 84 = true := by kernel_rfl
theorem bWr : aQ Tryz.prog 85 = true := by kernel_rfl
theorem bYh : aQ Tryz.prog 86 = true := by kernel_rfl
theorem bZb : aQ Tryz.prog 87 = true := by kernel_rfl
theorem cCc : aQ Tryz.prog 88 = true := by kernel_rfl
theorem bYo : aQ Tryz.prog 89 = true := by kernel_rfl
theorem cAt : aQ Tryz.prog 90 = true := by kernel_rfl
theorem bWl : aQ Tryz.prog 92 = true := by kernel_rfl
theorem bZv : aQ Tryz.prog 93 = true := by kernel_rfl
theorem bZf : aQ Tryz.prog 94 = true := by kernel_rfl
theorem cBm : aQ Tryz.prog 96 = true := by kernel_rfl
theorem cAz : aQ Tryz.prog 97 = true := by kernel_rfl
theorem bWj : aQ Tryz.prog 98 = true := by kernel_rfl
theorem cBw : aQ Tryz.prog 99 = true := by kernel_rfl
theorem bPc : aQ Tryz.prog 100 = true := by kernel_rfl
theorem bRv : aQ Tryz.prog 102 = true := by kernel_rfl
theorem bUz : aQ Tryz.prog 103 = true := by kernel_rfl
theorem bUr : aQ Tryz.prog 104 = true := by kernel_rfl
theorem bUb : aQ Tryz.prog 107 = true := by kernel_rfl
theorem bTh : aQ Tryz.prog 111 = true := by kernel_rfl
theorem bRb : aQ Tryz.prog 112 = true := by kernel_rfl
theorem bTp : aQ Tryz.prog 113 = true := by kernel_rfl
theorem bSg : aQ Tryz.prog 114 = true := by kernel_rfl
theorem bUg : aQ Tryz.prog 117 = true := by kernel_rfl
theorem bPn : aQ Tryz.prog 118 = true := by kernel_rfl
theorem bUq : aQ Tryz.prog 120 = true := by kernel_rfl
theorem bUk : aQ Tryz.prog 121 = true := by kernel_rfl
theorem bPv : aQ Tryz.prog 122 = true := by kernel_rfl
theorem bSy : aQ Tryz.prog 123 = true := by kernel_rfl
theorem bQn : aQ Tryz.prog 124 = true := by kernel_rfl
theorem bVm : aQ Tryz.prog 126 = true := by kernel_rfl
theorem bSs : aQ Tryz.prog 128 = true := by kernel_rfl
theorem bTi : aQ Tryz.prog 129 = true := by kernel_rfl
theorem bSo : aQ Tryz.prog 130 = true := by kernel_rfl
theorem bUe : aQ Tryz.prog 131 = true := by kernel_rfl
theorem bVh : aQ Tryz.prog 132 = true := by kernel_rfl
theorem bSm : aQ Tryz.prog 133 = true := by kernel_rfl
theorem bVa : aQ Tryz.prog 134 = true := by kernel_rfl
theorem bQc : aQ Tryz.prog 136 = true := by kernel_rfl
theorem bQa : aQ Tryz.prog 137 = true := by kernel_rfl
theorem bUs : aQ Tryz.prog 138 = true := by kernel_rfl
theorem bRk : aQ Tryz.prog 139 = true := by kernel_rfl
theorem bVj : aQ Tryz.prog 140 = true := by kernel_rfl
theorem bPy : aQ Tryz.prog 142 = true := by kernel_rfl
theorem bUv : aQ Tryz.prog 143 = true := by kernel_rfl
theorem bTf : aQ Tryz.prog 144 = true := by kernel_rfl
theorem bQf : aQ Tryz.prog 145 = true := by kernel_rfl
theorem bQk : aQ Tryz.prog 146 = true := by kernel_rfl
theorem bQo : aQ Tryz.prog 147 = true := by kernel_rfl
theorem bRo : aQ Tryz.prog 148 = true := by kernel_rfl
theorem bPs : aQ Tryz.prog 149 = true := by kernel_rfl
theorem bSv : aQ Tryz.prog 150 = true := by kernel_rfl
theorem bPu : aQ Tryz.prog 151 = true := by kernel_rfl
theorem bRr : aQ Tryz.prog 152 = true := by kernel_rfl
theorem bPj : aQ Tryz.prog 153 = true := by kernel_rfl
theorem bSw : aQ Tryz.prog 154 = true := by kernel_rfl
theorem bQu : aQ Tryz.prog 155 = true := by kernel_rfl
theorem bPl : aQ Tryz.prog 156 = true := by kernel_rfl
theorem bRh : aQ Tryz.prog 167 = true := by kernel_rfl
theorem bOz : aQ Tryz.prog 168 = true := by kernel_rfl
theorem bQt : aQ Tryz.prog 169 = true := by kernel_rfl
theorem bRy : aQ Tryz.prog 170 = true := by kernel_rfl
theorem bRx : aQ Tryz.prog 171 = true := by kernel_rfl
theorem bTv : aQ Tryz.prog 172 = true := by kernel_rfl
theorem bVi : aQ Tryz.prog 174 = true := by kernel_rfl
theorem bRg : aQ Tryz.prog 176 = true := by kernel_rfl
theorem bSc : aQ Tryz.prog 177 = true := by kernel_rfl
theorem bRi : aQ Tryz.prog 178 = true := by kernel_rfl
theorem bPm : aQ Tryz.prog 188 = true := by kernel_rfl
theorem bSl : aQ Tryz.prog 190 = true := by kernel_rfl
theorem bUl : aQ Tryz.prog 191 = true := by kernel_rfl
theorem bQi : aQ Tryz.prog 192 = true := by kernel_rfl
theorem bRe : aQ Tryz.prog 193 = true := by kernel_rfl
theorem bRp : aQ Tryz.prog 194 = true := by kernel_rfl
theorem bQg : aQ Tryz.prog 195 = true := by kernel_rfl
theorem bRa : aQ Tryz.prog 196 = true := by kernel_rfl
theorem bUa : aQ Tryz.prog 197 = true := by kernel_rfl
theorem bSz : aQ Tryz.prog 198 = true := by kernel_rfl
theorem bQp : aQ Tryz.prog 199 = true := by kernel_rfl
theorem bPt : aQ Tryz.prog 200 = true := by kernel_rfl
theorem bUf : aQ Tryz.prog 201 = true := by kernel_rfl
theorem bTd : aQ Tryz.prog 202 = true := by kernel_rfl
theorem bTy : aQ Tryz.prog 203 = true := by kernel_rfl
theorem bOx : aQ Tryz.prog 211 = true := by kernel_rfl
theorem bSf : aQ Tryz.prog 215 = true := by kernel_rfl
theorem bTt : aQ Tryz.prog 216 = true := by kernel_rfl
theorem bPr : aQ Tryz.prog 222 = true := by kernel_rfl
theorem bRc : aQ Tryz.prog 228 = true := by kernel_rfl
theorem bWv : rU Tryz.prog 49 = some ([1, 1]) := by kernel_rfl
theorem bXw : rU Tryz.prog 68 = some ([1, 1]) := by kernel_rfl
theorem bZe : rU Tryz.prog 85 = some ([1, 1, 1]) := by kernel_rfl
theorem bWb : mG Tryz.prog 28 = true := by kernel_rfl
theorem bXx : mG Tryz.prog 34 = true := by kernel_rfl
theorem bXb : mG Tryz.prog 46 = true := by kernel_rfl
theorem cBp : mG Tryz.prog 49 = true := by kernel_rfl
theorem cBu : mG Tryz.prog 51 = true := by kernel_rfl
theorem cBo : mG Tryz.prog 68 = true := by kernel_rfl
theorem bYg : mG Tryz.prog 82 = true := by kernel_rfl
theorem bYp : mG Tryz.prog 85 = true := by kernel_rfl
theorem bYw : mG Tryz.prog 91 = true := by kernel_rfl
theorem bTz : mG Tryz.prog 138 = true := by kernel_rfl
theorem bRj : mG Tryz.prog 154 = true := by kernel_rfl
theorem bUi : mG Tryz.prog 188 = true := by kernel_rfl
theorem bSq : mG Tryz.prog 199 = true := by kernel_rfl
theorem cBh : aFt Tryz.prog 78 = some (.bool false) := by kernel_rfl
theorem bJs : cG Tryz.prog 28 0 = some (0) := by kernel_rfl
theorem bId : cG Tryz.prog 28 1 = some (1) := by kernel_rfl
theorem bOu : cG Tryz.prog 28 2 = some (2) := by kernel_rfl
theorem bJx : cG Tryz.prog 28 3 = some (3) := by kernel_rfl
theorem bJn : cG Tryz.prog 28 4 = some (4) := by kernel_rfl
theorem bNn : cG Tryz.prog 28 5 = some (5) := by kernel_rfl
theorem bJe : cG Tryz.prog 34 0 = some (0) := by kernel_rfl
theorem bHk : cG Tryz.prog 34 1 = some (1) := by kernel_rfl
theorem bNx : cG Tryz.prog 34 2 = some (2) := by kernel_rfl
theorem bOs : cG Tryz.prog 34 3 = some (3) := by kernel_rfl
theorem bKm : cG Tryz.prog 34 4 = some (4) := by kernel_rfl
theorem bLd : cG Tryz.prog 46 0 = some (0) := by kernel_rfl
theorem bOd : cG Tryz.prog 46 1 = some (1) := by kernel_rfl
theorem bKl : cG Tryz.prog 46 2 = some (2) := by kernel_rfl
theorem bLj : cG Tryz.prog 46 3 = some (3) := by kernel_rfl
theorem bKh : cG Tryz.prog 46 4 = some (4) := by kernel_rfl
theorem bIn : cG Tryz.prog 46 5 = some (5) := by kernel_rfl
theorem bNi : cG Tryz.prog 46 6 = some (6) := by kernel_rfl
theorem bOa : cG Tryz.prog 46 7 = some (7) := by kernel_rfl
theorem bLp : cG Tryz.prog 46 8 = some (8) := by kernel_rfl
theorem bJj : cG Tryz.prog 46 9 = some (9) := by kernel_rfl
theorem aZc : cG Tryz.prog 46 10 = some (10) := by kernel_rfl
theorem bAh : cG Tryz.prog 46 11 = some (11) := by kernel_rfl
theorem bCm : cG Tryz.prog 46 12 = some (12) := by kernel_rfl
theorem bCr : cG Tryz.prog 46 13 = some (13) := by kernel_rfl
theorem bMt : cG Tryz.prog 49 0 = some (0) := by kernel_rfl
theorem bMp : cG Tryz.prog 49 1 = some (1) := by kernel_rfl
theorem bKz : cG Tryz.prog 51 0 = some (0) := by kernel_rfl
theorem bKf : cG Tryz.prog 51 1 = some (1) := by kernel_rfl
theorem bHl : cG Tryz.prog 51 2 = some (3) := by kernel_rfl
theorem bLc : cG Tryz.prog 68 0 = some (0) := by kernel_rfl
theorem bNq : cG Tryz.prog 68 1 = some (1) := by kernel_rfl
theorem bLq : cG Tryz.prog 82 0 = some (0) := by kernel_rfl
theorem bNd : cG Tryz.prog 82 1 = some (2) := by kernel_rfl
theorem bIq : cG Tryz.prog 85 0 = some (0) := by kernel_rfl
theorem bIg : cG Tryz.prog 85 1 = some (1) := by kernel_rfl
theorem bKv : cG Tryz.prog 85 2 = some (2) := by kernel_rfl
theorem bJo : cG Tryz.prog 91 0 = some (0) := by kernel_rfl
theorem bKe : cG Tryz.prog 91 1 = some (1) := by kernel_rfl
theorem bMw : cG Tryz.prog 91 2 = some (2) := by kernel_rfl
theorem bNo : cG Tryz.prog 91 3 = some (3) := by kernel_rfl
theorem bHy : cG Tryz.prog 91 4 = some (4) := by kernel_rfl
theorem bMk : cG Tryz.prog 91 5 = some (5) := by kernel_rfl
theorem bOi : cG Tryz.prog 91 6 = some (6) := by kernel_rfl
theorem bDm : cG Tryz.prog 138 0 = some (0) := by kernel_rfl
theorem aZr : cG Tryz.prog 138 1 = some (6) := by kernel_rfl
theorem bDe : cG Tryz.prog 154 0 = some (0) := by kernel_rfl
theorem bFb : cG Tryz.prog 179 0 = some (0) := by kernel_rfl
theorem aZk : cG Tryz.prog 179 1 = some (1) := by kernel_rfl
theorem bEg : cG Tryz.prog 179 2 = some (2) := by kernel_rfl
theorem bBj : cG Tryz.prog 183 0 = some (0) := by kernel_rfl
theorem aZm : cG Tryz.prog 183 1 = some (1) := by kernel_rfl
theorem bDu : cG Tryz.prog 183 2 = some (2) := by kernel_rfl
theorem bAl : cG Tryz.prog 183 3 = some (3) := by kernel_rfl
theorem bLr : gA Tryz.prog 28 0 = some (0, 1) := by kernel_rfl
theorem bMi : gA Tryz.prog 28 1 = some (1, 1) := by kernel_rfl
theorem bJq : gA Tryz.prog 34 1 = some (1, 1) := by kernel_rfl
theorem bLu : gA Tryz.prog 34 3 = some (3, 1) := by kernel_rfl
theorem bNl : gA Tryz.prog 34 4 = some (4, 1) := by kernel_rfl
theorem bJv : gA Tryz.prog 46 0 = some (0, 1) := by kernel_rfl
theorem bHg : gA Tryz.prog 46 1 = some (1, 1) := by kernel_rfl
theorem bLe : gA Tryz.prog 46 2 = some (2, 1) := by kernel_rfl
theorem bMy : gA Tryz.prog 46 3 = some (3, 1) := by kernel_rfl
theorem bKi : gA Tryz.prog 46 4 = some (4, 1) := by kernel_rfl
theorem bOc : gA Tryz.prog 46 5 = some (5, 1) := by kernel_rfl
theorem bLk : gA Tryz.prog 46 6 = some (6, 1) := by kernel_rfl
theorem bLs : gA Tryz.prog 46 7 = some (7, 1) := by kernel_rfl
theorem bEi : gA Tryz.prog 46 11 = some (11, 1) := by kernel_rfl
theorem bIl : gA Tryz.prog 49 0 = some (0, 1) := by kernel_rfl
theorem bLa : gA Tryz.prog 49 1 = some (1, 1) := by kernel_rfl
theorem bIi : gA Tryz.prog 51 0 = some (0, 1) := by kernel_rfl
theorem bKr : gA Tryz.prog 51 1 = some (1, 2) := by kernel_rfl
theorem bOr : gA Tryz.prog 68 0 = some (0, 1) := by kernel_rfl
theorem bHi : gA Tryz.prog 68 1 = some (1, 1) := by kernel_rfl
theorem bLv : gA Tryz.prog 82 0 = some (0, 2) := by kernel_rfl
theorem bKp : gA Tryz.prog 82 1 = some (2, 2) := by kernel_rfl
theorem bMs : gA Tryz.prog 85 0 = some (0, 1) := by kernel_rfl
theorem bKb : gA Tryz.prog 85 1 = some (1, 1) := by kernel_rfl
theorem bJf : gA Tryz.prog 85 2 = some (2, 1) := by kernel_rfl
theorem bIj : gA Tryz.prog 91 0 = some (0, 1) := by kernel_rfl
theorem bOm : gA Tryz.prog 91 1 = some (1, 1) := by kernel_rfl
theorem bMc : gA Tryz.prog 91 2 = some (2, 1) := by kernel_rfl
theorem bJt : gA Tryz.prog 91 4 = some (4, 1) := by kernel_rfl
theorem bLo : gA Tryz.prog 91 6 = some (6, 1) := by kernel_rfl
theorem bCa : gA Tryz.prog 138 0 = some (0, 6) := by kernel_rfl
theorem aZf : gA Tryz.prog 188 0 = some (0, 2) := by kernel_rfl
attribute [go_sem] bYd bXs bXc bWd bZq cAw cCl bZh cAe cBs bRz bOv bTw ld3 ld4 ld9 cAb bXo cAy cBn bZa bYr bZk cAv bYa bYj bWx cBg bZw cBc cBf bZx bZt bVv bZc bZn bQj bQl bPp cBb bWc bXr bVr bYm cBr cCe bXi bWg cBy cAj bTk bTm bRu bQr bPb bQw tk3 tk5 tk9 cCd bWk bWy bYi bVy bYc bWn bVp cCa bWo bWm cBq cCh bVx cAl bTn bQq bTu un3 ik5 zc3 zc4 zc9 bZl bXt bYb cAd bXj bZz bXm bZr cBk cCf cBd cCb bXa bRl bUw bRs bSu bRq bRt bVb sz3 sz4 sz9 bWi bVq bYk bZu bXp cAp bXg bYu bXv bZd bZo bXn bXy cAf bXd cAs bWw bYs cAx bQz bTc bRd bQv hb9 bYx bXf cBl bXk cBa cBx cAq bXu cAu bZi bWa bYv bVu cCj cCm bZj cAc cCg cBz cAo bYz bXz bYn bVz cBi bVn bWu bZm bWt bZg cBv bWz cAm cAa bZy bVo bXl bXq bZp bWf bVw bYe cBt bWh cAg cAr bVt cAh bXe cCk bYt bYf bWr bYh bZb cCc bYo cAt bWl bZv bZf cBm cAz bWj cBw bPc bRv bUz bUr bUb bTh bRb bTp bSg bUg bPn bUq bUk bPv bSy bQn bVm bSs bTi bSo bUe bVh bSm bVa bQc bQa bUs bRk bVj bPy bUv bTf bQf bQk bQo bRo bPs bSv bPu bRr bPj bSw bQu bPl bRh bOz bQt bRy bRx bTv bVi bRg bSc bRi bPm bSl bUl bQi bRe bRp bQg bRa bUa bSz bQp bPt bUf bTd bTy bOx bSf bTt bPr bRc bWv bXw bZe bWb bXx bXb cBp cBu cBo bYg bYp bYw bTz bRj bUi bSq cBh bJs bId bOu bJx bJn bNn bJe bHk bNx bOs bKm bLd bOd bKl bLj bKh bIn bNi bOa bLp bJj aZc bAh bCm bCr bMt bMp bKz bKf bHl bLc bNq bLq bNd bIq bIg bKv bJo bKe bMw bNo bHy bMk bOi bDm aZr bDe bFb aZk bEg bBj aZm bDu bAl bLr bMi bJq bLu bNl bJv bHg bLe bMy bKi bOc bLk bLs bEi bIl bLa bIi bKr bOr bHi bLv bKp bMs bKb bJf bIj bOm bMc bJt bLo bCa aZf
theorem fK : Tryz.prog.follows .mixedOrders = true := by kernel_rfl
structure bB where
 fEl : Int
 fIn : Int
 fOut : Int
 deriving DecidableEq
instance : Inhabited bB := ⟨⟨default, default, default⟩⟩
def bJ (x : bB) : List DV := [vi x.fEl, vi x.fIn, vi x.fOut]
theorem aWz (l : List bB) (xel : Int) (xin : Int) (xout : Int) : l.map bJ ++ [[vi xel, vi xin, vi xout]] = (l ++ [(⟨xel, xin, xout⟩ : bB)]).map bJ := by simp [bJ]
theorem bFd (l : List bB) : ((List.range l.length).map fun i => [vi (l.getD i default).fEl, vi (l.getD i default).fIn, vi (l.getD i default).fOut]) = l.map bJ := nV bJ l
theorem bDr (x y : bB) : x = y ↔ x.fEl = y.fEl ∧ x.fIn = y.fIn ∧ x.fOut = y.fOut := by cases x; cases y; simp
structure aM where
 fEl : Int
 fPos : Int
 deriving DecidableEq
instance : Inhabited aM := ⟨⟨default, default⟩⟩
def aY (x : aM) : List DV := [vi x.fEl, vi x.fPos]
theorem aGu (l : List aM) (xel : Int) (xpos : Int) : l.map aY ++ [[vi xel, vi xpos]] = (l ++ [(⟨xel, xpos⟩ : aM)]).map aY := by simp [aY]
theorem aLr (l : List aM) : ((List.range l.length).map fun i => [vi (l.getD i default).fEl, vi (l.getD i default).fPos]) = l.map aY := nV aY l
theorem fE (x y : aM) : x = y ↔ x.fEl = y.fEl ∧ x.fPos = y.fPos := by cases x; cases y; simp
structure cC where
 fEl : Int
 fSide : Int
 deriving DecidableEq
instance : Inhabited cC := ⟨⟨default, default⟩⟩
def bO (x : cC) : List DV := [vi x.fEl, vi x.fSide]
def aMv (x : cC) : Prop := (-9223372036854775808 ≤ x.fEl ∧ x.fEl ≤ 9223372036854775807) ∧ (-9223372036854775808 ≤ x.fSide ∧ x.fSide ≤ 9223372036854775807)
theorem bFc (l : List cC) (xel : Int) (xside : Int) : l.map bO ++ [[vi xel, vi xside]] = (l ++ [(⟨xel, xside⟩ : cC)]).map bO := by simp [bO]
theorem bNw (l : List cC) : ((List.range l.length).map fun i => [vi (l.getD i default).fEl, vi (l.getD i default).fSide]) = l.map bO := nV bO l
theorem d6 (x y : cC) : x = y ↔ x.fEl = y.fEl ∧ x.fSide = y.fSide := by cases x; cases y; simp
structure bE where
 fName : ByteArray
 fEntry : Int
 fExit : Int
 fPath : (List bB)
 fPoints : (List aM)
 fSections : (List Int)
 fApproach : Int
 fLength : Int
 fOver : (List bB)
 fOverPoints : (List aM)
 fOverSections : (List Int)
 fFlank : (List aM)
 fGuards : (List Int)
 fGaps : (List cC)
 deriving DecidableEq
instance : Inhabited bE := ⟨⟨default, default, default, default, default, default, default, default, default, default, default, default, default, default⟩⟩
def aZ (x : bE) : List DV := [vs x.fName, vi x.fEntry, vi x.fExit, encL 3 bJ x.fPath, encL 2 aY x.fPoints, encL 1 eI x.fSections, vi x.fApproach, vi x.fLength, encL 3 bJ x.fOver, encL 2 aY x.fOverPoints, encL 1 eI x.fOverSections, encL 2 aY x.fFlank, encL 1 eI x.fGuards, encL 2 bO x.fGaps]
theorem zB (x y : bE) : x = y ↔ x.fName = y.fName ∧ x.fEntry = y.fEntry ∧ x.fExit = y.fExit ∧ x.fPath = y.fPath ∧ x.fPoints = y.fPoints ∧ x.fSections = y.fSections ∧ x.fApproach = y.fApproach ∧ x.fLength = y.fLength ∧ x.fOver = y.fOver ∧ x.fOverPoints = y.fOverPoints ∧ x.fOverSections = y.fOverSections ∧ x.fFlank = y.fFlank ∧ x.fGuards = y.fGuards ∧ x.fGaps = y.fGaps := by cases x; cases y; simp
structure eB where
 fRoutes : (List bE)
 fPoints : (List Int)
 fHomes : (List Int)
 fSections : Int
 fSignals : Int
 deriving DecidableEq
instance : Inhabited eB := ⟨⟨default, default, default, default, default⟩⟩
def eP (x : eB) : List DV := [encL 14 aZ x.fRoutes, encL 1 eI x.fPoints, encL 1 eI x.fHomes, vi x.fSections, vi x.fSignals]
theorem zA (x y : eB) : x = y ↔ x.fRoutes = y.fRoutes ∧ x.fPoints = y.fPoints ∧ x.fHomes = y.fHomes ∧ x.fSections = y.fSections ∧ x.fSignals = y.fSignals := by cases x; cases y; simp
theorem bEb : Dec Tryz.prog 9 eS (fun s => s.size ≤ 140737488355328) := aKt Tryz.underlying9
theorem xH : Dec Tryz.prog 3 eI (fun n => -9223372036854775808 ≤ n ∧ n ≤ 9223372036854775807) := bEd Tryz.underlying3
theorem aRu : Dec Tryz.prog 49 bO aMv := fun H enc w sp held fuel cs x h hw => by
 obtain ⟨a0, k0, r0⟩ := cW (s := 1) Tryz.underlying49 h hw 0 rfl (by kernel_rfl) xH
 obtain ⟨a1, k1, r1⟩ := cW (s := 1) Tryz.underlying49 h hw 1 rfl (by kernel_rfl) xH
 have hl : cs.length = 2 := by obtain ⟨_, _, _, _, h1, _⟩ := DataW.trod_struct Tryz.underlying49 h; exact h1.trans (by kernel_rfl)
 exact ⟨⟨a0, a1⟩, ⟨k0, k1⟩, (RC.join (o := 0) (s := 1) r0 (RC.join (o := 1) (s := 1) r1 (RC.stop hl)))⟩
structure iR where
 fName : ByteArray
 fKind : Int
 fLength : Int
 fGrade : Int
 fSpeed : Int
 fSlow : Int
 fSection : Int
 deriving DecidableEq
instance : Inhabited iR := ⟨⟨default, default, default, default, default, default, default⟩⟩
def eM (x : iR) : List DV := [vs x.fName, vi x.fKind, vi x.fLength, vi x.fGrade, vi x.fSpeed, vi x.fSlow, vi x.fSection]
def vR (x : iR) : Prop := (x.fName.size ≤ 140737488355328) ∧ (-9223372036854775808 ≤ x.fKind ∧ x.fKind ≤ 9223372036854775807) ∧ (-9223372036854775808 ≤ x.fLength ∧ x.fLength ≤ 9223372036854775807) ∧ (-9223372036854775808 ≤ x.fGrade ∧ x.fGrade ≤ 9223372036854775807) ∧ (-9223372036854775808 ≤ x.fSpeed ∧ x.fSpeed ≤ 9223372036854775807) ∧ (-9223372036854775808 ≤ x.fSlow ∧ x.fSlow ≤ 9223372036854775807) ∧ (-9223372036854775808 ≤ x.fSection ∧ x.fSection ≤ 9223372036854775807)
theorem aJa (l : List iR) (xname : ByteArray) (xkind : Int) (xlength : Int) (xgrade : Int) (xspeed : Int) (xslow : Int) (xsection : Int) : l.map eM ++ [[vs xname, vi xkind, vi xlength, vi xgrade, vi xspeed, vi xslow, vi xsection]] = (l ++ [(⟨xname, xkind, xlength, xgrade, xspeed, xslow, xsection⟩ : iR)]).map eM := by simp [eM]
structure gG where
 fA : cC
 fB : cC
 deriving DecidableEq
instance : Inhabited gG := ⟨⟨default, default⟩⟩
def sK (x : gG) : List DV := [vi x.fA.fEl, vi x.fA.fSide, vi x.fB.fEl, vi x.fB.fSide]
def aFk (x : gG) : Prop := (aMv x.fA) ∧ (aMv x.fB)
structure hM where
 fName : ByteArray
 fAt : cC
 fOverlap : Int
 deriving DecidableEq
instance : Inhabited hM := ⟨⟨default, default, default⟩⟩
def eC (x : hM) : List DV := [vs x.fName, vi x.fAt.fEl, vi x.fAt.fSide, vi x.fOverlap]
def yI (x : hM) : Prop := (x.fName.size ≤ 140737488355328) ∧ (aMv x.fAt) ∧ (-9223372036854775808 ≤ x.fOverlap ∧ x.fOverlap ≤ 9223372036854775807)
structure mR where
 fId : Int
 fEl : Int
 fOffset : Int
 deriving DecidableEq
instance : Inhabited mR := ⟨⟨default, default, default⟩⟩
def rE (x : mR) : List DV := [vi x.fId, vi x.fEl, vi x.fOffset]
def aAb (x : mR) : Prop := (-9223372036854775808 ≤ x.fId ∧ x.fId ≤ 9223372036854775807) ∧ (-9223372036854775808 ≤ x.fEl ∧ x.fEl ≤ 9223372036854775807) ∧ (-9223372036854775808 ≤ x.fOffset ∧ x.fOffset ≤ 9223372036854775807)
structure aC where
 fName : ByteArray
 fSections : (List ByteArray)
 fElements : (List iR)
 fJoints : (List gG)
 fSignals : (List hM)
 fBalises : (List mR)
 deriving DecidableEq
instance : Inhabited aC := ⟨⟨default, default, default, default, default, default⟩⟩
def aI (x : aC) : List DV := [vs x.fName, encL 1 eS x.fSections, encL 7 eM x.fElements, encL 4 sK x.fJoints, encL 4 eC x.fSignals, encL 3 rE x.fBalises]
def aAr (x : aC) : Prop := (x.fName.size ≤ 140737488355328) ∧ ((∀ a ∈ x.fSections, a.size ≤ 140737488355328) ∧ x.fSections.length ≤ 140737488355328) ∧ ((∀ a ∈ x.fElements, vR a) ∧ x.fElements.length ≤ 140737488355328) ∧ ((∀ a ∈ x.fJoints, aFk a) ∧ x.fJoints.length ≤ 140737488355328) ∧ ((∀ a ∈ x.fSignals, yI a) ∧ x.fSignals.length ≤ 140737488355328) ∧ ((∀ a ∈ x.fBalises, aAb a) ∧ x.fBalises.length ≤ 140737488355328)
theorem bSd : Dec Tryz.prog 22 (fun l : (List ByteArray) => [encL 1 eS l]) (fun l => (∀ a ∈ l, a.size ≤ 140737488355328) ∧ l.length ≤ 140737488355328) := oI Tryz.underlying22 (by kernel_rfl) (by decide) (of_decide_eq_true (by kernel_rfl)) bEb (fun _ => rfl)
theorem bUt : Dec Tryz.prog 91 eM vR := fun H enc w sp held fuel cs x h hw => by
 obtain ⟨a0, k0, r0⟩ := cW (s := 1) Tryz.underlying91 h hw 0 rfl (by kernel_rfl) bEb
 obtain ⟨a1, k1, r1⟩ := cW (s := 1) Tryz.underlying91 h hw 1 rfl (by kernel_rfl) xH
 obtain ⟨a2, k2, r2⟩ := cW (s := 1) Tryz.underlying91 h hw 2 rfl (by kernel_rfl) xH
 obtain ⟨a3, k3, r3⟩ := cW (s := 1) Tryz.underlying91 h hw 3 rfl (by kernel_rfl) xH
 obtain ⟨a4, k4, r4⟩ := cW (s := 1) Tryz.underlying91 h hw 4 rfl (by kernel_rfl) xH
 obtain ⟨a5, k5, r5⟩ := cW (s := 1) Tryz.underlying91 h hw 5 rfl (by kernel_rfl) xH
 obtain ⟨a6, k6, r6⟩ := cW (s := 1) Tryz.underlying91 h hw 6 rfl (by kernel_rfl) xH
 have hl : cs.length = 7 := by obtain ⟨_, _, _, _, h1, _⟩ := DataW.trod_struct Tryz.underlying91 h; exact h1.trans (by kernel_rfl)
 exact ⟨⟨a0, a1, a2, a3, a4, a5, a6⟩, ⟨k0, k1, k2, k3, k4, k5, k6⟩, (RC.join (o := 0) (s := 1) r0 (RC.join (o := 1) (s := 1) r1 (RC.join (o := 2) (s := 1) r2 (RC.join (o := 3) (s := 1) r3 (RC.join (o := 4) (s := 1) r4 (RC.join (o := 5) (s := 1) r5 (RC.join (o := 6) (s := 1) r6 (RC.stop hl))))))))⟩
theorem bUd : Dec Tryz.prog 23 (fun l : (List iR) => [encL 7 eM l]) (fun l => (∀ a ∈ l, vR a) ∧ l.length ≤ 140737488355328) := oI Tryz.underlying23 (by kernel_rfl) (by decide) (of_decide_eq_true (by kernel_rfl)) bUt (fun _ => rfl)
theorem bPd : Dec Tryz.prog 82 sK aFk := fun H enc w sp held fuel cs x h hw => by
 obtain ⟨a0, k0, r0⟩ := cW (s := 2) Tryz.underlying82 h hw 0 rfl (by kernel_rfl) aRu
 obtain ⟨a1, k1, r1⟩ := cW (s := 2) Tryz.underlying82 h hw 1 rfl (by kernel_rfl) aRu
 have hl : cs.length = 4 := by obtain ⟨_, _, _, _, h1, _⟩ := DataW.trod_struct Tryz.underlying82 h; exact h1.trans (by kernel_rfl)
 exact ⟨⟨a0, a1⟩, ⟨k0, k1⟩, (RC.join (o := 0) (s := 2) r0 (RC.join (o := 2) (s := 2) r1 (RC.stop hl)))⟩
theorem bSi : Dec Tryz.prog 24 (fun l : (List gG) => [encL 4 sK l]) (fun l => (∀ a ∈ l, aFk a) ∧ l.length ≤ 140737488355328) := oI Tryz.underlying24 (by kernel_rfl) (by decide) (of_decide_eq_true (by kernel_rfl)) bPd (fun _ => rfl)
theorem bRm : Dec Tryz.prog 51 eC yI := fun H enc w sp held fuel cs x h hw => by
 obtain ⟨a0, k0, r0⟩ := cW (s := 1) Tryz.underlying51 h hw 0 rfl (by kernel_rfl) bEb
 obtain ⟨a1, k1, r1⟩ := cW (s := 2) Tryz.underlying51 h hw 1 rfl (by kernel_rfl) aRu
 obtain ⟨a2, k2, r2⟩ := cW (s := 1) Tryz.underlying51 h hw 2 rfl (by kernel_rfl) xH
 have hl : cs.length = 4 := by obtain ⟨_, _, _, _, h1, _⟩ := DataW.trod_struct Tryz.underlying51 h; exact h1.trans (by kernel_rfl)
 exact ⟨⟨a0, a1, a2⟩, ⟨k0, k1, k2⟩, (RC.join (o := 0) (s := 1) r0 (RC.join (o := 1) (s := 2) r1 (RC.join (o := 3) (s := 1) r2 (RC.stop hl))))⟩
theorem bPa : Dec Tryz.prog 25 (fun l : (List hM) => [encL 4 eC l]) (fun l => (∀ a ∈ l, yI a) ∧ l.length ≤ 140737488355328) := oI Tryz.underlying25 (by kernel_rfl) (by decide) (of_decide_eq_true (by kernel_rfl)) bRm (fun _ => rfl)
theorem bMe : Dec Tryz.prog 179 rE aAb := fun H enc w sp held fuel cs x h hw => by
 obtain ⟨a0, k0, r0⟩ := cW (s := 1) Tryz.underlying179 h hw 0 rfl (by kernel_rfl) xH
 obtain ⟨a1, k1, r1⟩ := cW (s := 1) Tryz.underlying179 h hw 1 rfl (by kernel_rfl) xH
 obtain ⟨a2, k2, r2⟩ := cW (s := 1) Tryz.underlying179 h hw 2 rfl (by kernel_rfl) xH
 have hl : cs.length = 3 := by obtain ⟨_, _, _, _, h1, _⟩ := DataW.trod_struct Tryz.underlying179 h; exact h1.trans (by kernel_rfl)
 exact ⟨⟨a0, a1, a2⟩, ⟨k0, k1, k2⟩, (RC.join (o := 0) (s := 1) r0 (RC.join (o := 1) (s := 1) r1 (RC.join (o := 2) (s := 1) r2 (RC.stop hl))))⟩
theorem bTs : Dec Tryz.prog 26 (fun l : (List mR) => [encL 3 rE l]) (fun l => (∀ a ∈ l, aAb a) ∧ l.length ≤ 140737488355328) := oI Tryz.underlying26 (by kernel_rfl) (by decide) (of_decide_eq_true (by kernel_rfl)) bMe (fun _ => rfl)
theorem bPh : Dec Tryz.prog 28 aI aAr := fun H enc w sp held fuel cs x h hw => by
 obtain ⟨a0, k0, r0⟩ := cW (s := 1) Tryz.underlying28 h hw 0 rfl (by kernel_rfl) bEb
 obtain ⟨a1, k1, r1⟩ := cW (s := 1) Tryz.underlying28 h hw 1 rfl (by kernel_rfl) bSd
 obtain ⟨a2, k2, r2⟩ := cW (s := 1) Tryz.underlying28 h hw 2 rfl (by kernel_rfl) bUd
 obtain ⟨a3, k3, r3⟩ := cW (s := 1) Tryz.underlying28 h hw 3 rfl (by kernel_rfl) bSi
 obtain ⟨a4, k4, r4⟩ := cW (s := 1) Tryz.underlying28 h hw 4 rfl (by kernel_rfl) bPa
 obtain ⟨a5, k5, r5⟩ := cW (s := 1) Tryz.underlying28 h hw 5 rfl (by kernel_rfl) bTs
 have hl : cs.length = 6 := by obtain ⟨_, _, _, _, h1, _⟩ := DataW.trod_struct Tryz.underlying28 h; exact h1.trans (by kernel_rfl)
 exact ⟨⟨a0, a1, a2, a3, a4, a5⟩, ⟨k0, k1, k2, k3, k4, k5⟩, (RC.join (o := 0) (s := 1) r0 (RC.join (o := 1) (s := 1) r1 (RC.join (o := 2) (s := 1) r2 (RC.join (o := 3) (s := 1) r3 (RC.join (o := 4) (s := 1) r4 (RC.join (o := 5) (s := 1) r5 (RC.stop hl)))))))⟩
attribute [go_sem] bJ aWz bFd aY aGu aLr bO bFc bNw aZ eP eM aJa sK eC rE aI
end Go.Sg
namespace Go.Sg
open Go.RowKit
structure aGc (w w' : World) (g : Nat) (e : TypeId) (us : Array Value) : Prop where
 os : w'.os = w.os
 tape : w'.tape = w.tape ∧ w.drawn ≤ w'.drawn
 output : w'.output = w.output
 size : w.heap.size ≤ w'.heap.size
 here : w'.heap[g]? = some (.cells us e (0, 0))
 other : ∀ k, k < w.heap.size → k ≠ g → w'.heap[k]? = w.heap[k]?
theorem yM {P : Program} {f : FuncId} {O : aU} {s : Nat} {e : TypeId} {l l' : List Int} (hs : O s = rowL e 1 eI l) (hlen : l'.length = l.length) (r : DV) (rv : Option Addr → Nat → Value) (hown : bR r = false)
  (hr : ∀ w I A B c b, A s = some (B, c) → jI B b → bK w I A r (rv b c))
  (H0 : l = [] → ∀ b c w, Calls P f #[.slice b 0 c] w fun x w' => x = .returned (rv b c) ∧ w' = w)
  (H : ∀ w g c us, w.heap[g]? = some (.cells us e (0, 0)) → us.size = c → l.length ≤ c → c ≤ maxLen → 0 < l.length → (∀ i, i < l.length → us[i]? = some (.int .i64 (l.getD i 0))) →
   Calls P f #[.slice (some ⟨g, 0, none⟩) l.length c] w fun x w' => x = .returned (rv (some ⟨g, 0, none⟩) c) ∧ ∃ us', aGc w w' g e us' ∧ us'.size = us.size ∧ ∀ i, i < l'.length → us'[i]? = some (.int .i64 (l'.getD i 0))) :
  iH P O f [.own s l.length] fun O' x => O' = set O s (rowL e 1 eI l') ∧ x = r := by
 intro w I A vals hO hl hv
 obtain ⟨x, rfl⟩ : ∃ x, vals = #[x] := by
  rcases vals with ⟨_ | ⟨x, _ | ⟨y, ys⟩⟩⟩
  ·simp at hl
  ·exact ⟨x, rfl⟩
  simp at hl
 have hx := hv 0 _ x rfl rfl
 cases hx with
 | own _ _ _ B c b hA hb =>
  have ho := hO.own s
  rw [hs] at ho
  obtain ⟨B', c', q1, q2⟩ := ho
  rw [hA] at q1
  simp only [Option.some.injEq, Prod.mk.injEq] at q1
  obtain ⟨rfl, rfl⟩ := q1
  have hfr : ∀ t, eK (O t) (set O s (rowL e 1 eI l') t) := fun t => by
   rw [aT]; split
   ·rename_i h; subst h; rw [hs]; exact ⟨rfl, rfl, by simp [hlen]⟩
   exact eK.refl _
  have hout : ∀ t, cV (O t) → cV (set O s (rowL e 1 eI l') t) := fun t ht => by
   rw [aT]; split
   ·rfl
   exact ht
  have hres : ∀ w' I', lF w w' I' A r (rv b c) := fun w' I' => by
   have := hr w' I' A B c b hA hb
   cases r <;> first | exact this | cases hown
  rcases Nat.eq_zero_or_pos l.length with h0 | h0
  ·obtain rfl : l = [] := List.eq_nil_of_length_eq_zero h0
   obtain rfl : l' = [] := List.eq_nil_of_length_eq_zero (by simpa using hlen)
   refine (H0 rfl _ _ w).mono fun _ w' ⟨k1, k2⟩ => ?_
   subst k2
   refine ⟨_, I, set O s (rowL e 1 eI []), r, k1, ⟨fun t => ?_, hO.inj, hO.sep, hO.imm⟩, hfr, hout, eX.refl _ _ _, hres _ _, rfl, rfl⟩
   rw [aT]; split
   ·rename_i h; subst h; have := hO.own t; rw [hs] at this; exact this
   exact hO.own t
  cases B with
  | none =>
   have := q2.1
   have : (List.map eI l).length = 0 := by rw [this]; rfl
   simp at this; subst this; simp at h0
  | some g =>
   obtain rfl := gH hb
   obtain ⟨us, p1, p2, p3, p4, p5⟩ := q2
   have hcont : ∀ i, i < l.length → us[i]? = some (.int .i64 (l.getD i 0)) := fun i hi => by
    have h1 : (l.map eI)[i]? = some (eI (l.getD i 0)) := by simp [List.getElem?_eq_getElem hi]
    have hb : i * 1 + 0 < us.size := by simp at p4; omega
    have := ((p5 i _ h1).2 0 _ _ rfl (Array.getElem?_eq_getElem hb)).2
    rw [show us[i]? = some (us[i * 1 + 0]'hb) by rw [← Array.getElem?_eq_getElem hb]; simp]
    generalize us[i * 1 + 0]'hb = u at this
    cases this; rfl
   refine (H w g c us p1 (by omega) (by simpa using p4) p3 h0 hcont).mono fun _ w' ⟨k1, us', k2, k3, k4⟩ => ?_
   obtain ⟨hgs, hgI⟩ := hO.sep s g c hA
   have hrel : ∀ B d x, bK w I B d x → bK w' I B d x := fun B d x h => h.mono fun k hk => ⟨hk, fun o => eF (k2.other k (hO.imm k hk) fun e => hgI (e ▸ hk)) o⟩
   refine ⟨_, I, set O s (rowL e 1 eI l'), r, k1, ⟨fun t => ?_, hO.inj, fun t k c' h => ⟨Nat.lt_of_lt_of_le (hO.sep t k c' h).1 k2.size, (hO.sep t k c' h).2⟩, hO.imm.step (fun k hk => Nat.lt_of_lt_of_le (hO.imm k hk) k2.size) fun k hk => ⟨hk, k2.other k (hO.imm k hk) fun e => hgI (e ▸ hk)⟩⟩, hfr, hout,
    ⟨k2.os, k2.tape, k2.output, k2.size, fun _ h => h, fun k hk h => ⟨k2.other k hk fun e => h s c (e ▸ hA), fun h => h, h⟩, fun t k c' h _ ht => ⟨t, c', ht, h⟩, fun _ _ => rfl⟩, hres _ _, rfl, rfl⟩
   rw [aT]; split
   ·rename_i h; subst h
    refine ⟨some g, c, hA, us', k2.here, by omega, p3, by simp at p4 ⊢; omega, fun i y hy => ?_⟩
    rw [List.getElem?_map] at hy
    cases hi : l'[i]? with
    | none => rw [hi] at hy; cases hy
    | some a =>
     rw [hi] at hy
     cases hy
     have hlt : i < l'.length := (List.getElem?_eq_some_iff.1 hi).1
     refine ⟨rfl, fun j d u hd hu => ?_⟩
     cases j with
     | zero =>
      cases hd
      have := k4 i hlt
      rw [show i * 1 + 0 = i by omega, this] at hu
      cases hu
      rw [List.getD_eq_getElem?_getD, hi]
      exact ⟨rfl, .v _ _⟩
     | succ j => simp [eI] at hd
   rename_i hne
   refine (hO.own t).keep (fun k c' h => k2.other k (hO.sep t k c' h).1 fun e => hne (hO.inj t s g c' c (e ▸ h) hA)) hrel
theorem uK {off : Nat} (l : List Int) (c : Array Value) {i : Nat} (hi : i < l.length) (hc : i < c.size) : (Sort.putCells (Value.int .i64) 0 l.toArray c)[i]? = some (.int .i64 (l.getD i 0)) := by
 unfold Sort.putCells
 rw [Array.getElem?_mapIdx, Array.getElem?_eq_getElem hc, Option.map_some, if_pos ⟨Nat.zero_le _, by simpa using hi⟩]
 simp [List.getD_eq_getElem?_getD, List.getElem?_eq_getElem hi, getElem!_pos, hi]
theorem zC {w : World} {g : Nat} {us : Array Value} {e : TypeId} (h : w.heap[g]? = some (.cells us e (0, 0))) (n : Nat) (l : List Int) (os : Array Obj) :
  aGc w (Sort.grow (Sort.putRow (Value.int .i64) (Sort.ahead w n) g 0 l.toArray) os) g e (Sort.putCells (Value.int .i64) 0 l.toArray us) := by
 have hg : g < w.heap.size := (Array.getElem?_eq_some_iff.1 h).1
 have hsz : (w.heap.modify g (Sort.onCells (Sort.putCells (Value.int .i64) 0 l.toArray))).size = w.heap.size := by simp
 have hh : ∀ k, k < w.heap.size → (Sort.grow (Sort.putRow (Value.int .i64) (Sort.ahead w n) g 0 l.toArray) os).heap[k]? = (w.heap.modify g (Sort.onCells (Sort.putCells (Value.int .i64) 0 l.toArray)))[k]? := fun k hk => by
  show (w.heap.modify g (Sort.onCells (Sort.putCells (Value.int .i64) 0 l.toArray)) ++ os)[k]? = _
  rw [Array.getElem?_append_left (by rw [hsz]; exact hk)]
 refine ⟨rfl, ⟨rfl, Nat.le_add_right _ _⟩, rfl, by simp [Sort.ahead], ?_, fun k hk hne => ?_⟩
 ·rw [hh g hg, Array.getElem?_modify, if_pos rfl, h]; rfl
 rw [hh k hk, Array.getElem?_modify, if_neg (Ne.symm hne)]
theorem aCt {w : World} {g : Nat} {us : Array Value} {e : TypeId} (h : w.heap[g]? = some (.cells us e (0, 0))) (o : Nat) : w.cell? ⟨g, o, none⟩ = us[o]? ∧ w.frozen? ⟨g, o, none⟩ = false := by
 constructor
 ·unfold World.cell?; rw [h]; rfl
 unfold World.frozen?; rw [h]; simp
theorem aGs {w : World} {g c : Nat} {us : Array Value} {e : TypeId} {l : List Int} (h : w.heap[g]? = some (.cells us e (0, 0))) (hc : ∀ i, i < l.length → us[i]? = some (.int .i64 (l.getD i 0))) : Sort.Holds (Value.int .i64) w g 0 l.toArray := fun j hj => by
 have hj' : j < l.length := by simpa using hj
 obtain ⟨k1, k2⟩ := aCt h (0 + j)
 refine ⟨?_, k2⟩
 rw [k1, Nat.zero_add, hc j hj']
 simp [List.getD_eq_getElem?_getD, List.getElem?_eq_getElem hj', getElem!_pos, hj']
abbrev srt (l : List Int) : List Int := l.mergeSort fun x y => decide (x ≤ y)
theorem aJt {P : Program} {f : FuncId} {O : aU} {s : Nat} {e : TypeId} {l : List Int} (hs : O s = rowL e 1 eI l)
  (H0 : ∀ b c w, Calls P f #[.slice b 0 c] w fun x w' => x = .returned (.tuple #[]) ∧ w' = w)
  (H : ∀ (blk off cap : Nat) (zs : List Int) (w : World), Sort.Holds (Value.int .i64) w blk off zs.toArray → blk < w.heap.size → zs.length < 4611686018427387904 →
   Calls P f #[.slice (some ⟨blk, off, none⟩) zs.length cap] w fun e w' => e = .returned (.tuple #[]) ∧ ∃ n os, w' = Sort.grow (Sort.putRow (Value.int .i64) (Sort.ahead w n) blk off (zs.mergeSort fun x y => decide (x ≤ y)).toArray) os)
  (hb : l.length < 4611686018427387904) :
  iH P O f [.own s l.length] fun O' x => O' = set O s (rowL e 1 eI (srt l)) ∧ x = .tup [] :=
 yM hs (by simp) _ (fun _ _ => .tuple #[]) rfl (fun w I A B c _ _ _ => bK.tup A [] #[] rfl (by simp)) (fun _ => H0) fun w g c us h1 h2 h3 h4 h5 h6 =>
  (H g 0 c l w (aGs (c := c) h1 h6) (Array.getElem?_eq_some_iff.1 h1).1 hb).mono fun _ w' ⟨k1, n, os, k2⟩ => ⟨k1, _, k2 ▸ zC h1 n _ os, by simp [Sort.putCells], fun i hi => uK (off := 0) _ _ hi (by simp at hi; omega)⟩
theorem aBw {P : Program} {f : FuncId} {O : aU} {s : Nat} {e : TypeId} {l : List Int} (hs : O s = rowL e 1 eI l)
  (H0 : ∀ b c w, Calls P f #[.slice b 0 c] w fun x w' => x = .returned (.slice b 0 c) ∧ w' = w)
  (H : ∀ (blk off cap : Nat) (zs : List Int) (w : World), Sort.Holds (Value.int .i64) w blk off zs.toArray → zs.length ≤ 9223372036854775807 → zs.length ≤ cap →
   Calls P f #[.slice (some ⟨blk, off, none⟩) zs.length cap] w fun e w' => e = .returned (.slice (some ⟨blk, off, none⟩) (Lib.compact zs).length cap) ∧ ∃ q, w' = Sort.putRow (Value.int .i64) (Sort.ahead w q) blk off (Lib.compact zs ++ List.replicate (zs.length - (Lib.compact zs).length) 0).toArray)
  (hle : (Lib.compact l).length ≤ l.length) :
  iH P O f [.own s l.length] fun O' x => O' = set O s (rowL e 1 eI (Lib.compact l ++ List.replicate (l.length - (Lib.compact l).length) 0)) ∧ x = .own s (Lib.compact l).length :=
 yM hs (by simp; omega) _ (fun b c => .slice b (Lib.compact l).length c) rfl (fun w I A B c b h hb => .own A s _ B c b h hb)
  (fun h b c w => by
   have : (Lib.compact l).length = 0 := by subst h; simpa using hle
   rw [this]; exact H0 b c w) fun w g c us h1 h2 h3 h4 h5 h6 =>
  (H g 0 c l w (aGs (c := c) h1 h6) (Nat.le_trans h3 h4) h3).mono fun _ w' ⟨k1, n, k2⟩ => ⟨k1, _, by
   have := zC h1 n (Lib.compact l ++ List.replicate (l.length - (Lib.compact l).length) 0) #[]
   rw [Sort.grow_empty, ← k2] at this
   exact this, by simp [Sort.putCells], fun i hi => uK (off := 0) _ _ hi (by simp at hi; omega)⟩
end Go.Sg
namespace Go.Sg
attribute [go_sem] wX
def gU {α : Type} [Inhabited α] (f : α → Bool) (l : List α) (i : Nat) : Prop := ∀ j, j < i → f (l.getD j default) = true
section
variable {α : Type} [Inhabited α] {f : α → Bool} {l : List α} {i n : Nat}
theorem fH (f : α → Bool) (l : List α) : gU f l 0 := fun j h => absurd h (Nat.not_lt_zero _)
theorem fI (h : gU f l i) (g : f (l.getD i default) = true) : gU f l (i + 1) := fun j hj => by
 rcases Nat.lt_or_eq_of_le (Nat.le_of_lt_succ hj) with q | q
 ·exact h j q
 rw [q]; exact g
theorem fS (h : i < l.length) : l.getD i default ∈ l := by rw [List.getD_eq_getElem?_getD, List.getElem?_eq_getElem h]; exact List.getElem_mem h
theorem aUs {x : α} (h : x ∈ l) : ∃ i, i < l.length ∧ l.getD i default = x := by
 obtain ⟨i, hi, rfl⟩ := List.mem_iff_getElem.1 h
 exact ⟨i, hi, by rw [List.getD_eq_getElem?_getD, List.getElem?_eq_getElem hi]; rfl⟩
theorem kJ (h : gU f l i) (g : l.length ≤ i) : l.all f = true := by
 rw [List.all_eq_true]; intro x hx
 obtain ⟨j, hj, rfl⟩ := aUs hx
 exact h j (Nat.lt_of_lt_of_le hj g)
theorem kA (h : i < l.length) (g : f (l.getD i default) = false) : l.all f = false := by
 rw [← Bool.not_eq_true, List.all_eq_true]; intro q; rw [q _ (fS h)] at g; cases g
theorem s7 (h : l.all f = true) (g : i < l.length) : f (l.getD i default) = true := (List.all_eq_true.1 h) _ (fS g)
def j5 (f : Nat → Bool) (i : Nat) : Prop := ∀ j, j < i → f j = true
theorem gT (f : Nat → Bool) : j5 f 0 := fun j h => absurd h (Nat.not_lt_zero _)
theorem gN {f : Nat → Bool} (h : j5 f i) (g : f i = true) : j5 f (i + 1) := fun j hj => by
 rcases Nat.lt_or_eq_of_le (Nat.le_of_lt_succ hj) with q | q
 ·exact h j q
 rw [q]; exact g
theorem o4 {f : Nat → Bool} (h : j5 f i) (g : n ≤ i) : (List.range n).all f = true := by
 rw [List.all_eq_true]; intro x hx; exact h x (Nat.lt_of_lt_of_le (List.mem_range.1 hx) g)
theorem o8 {f : Nat → Bool} (h : i < n) (g : f i = false) : (List.range n).all f = false := by
 rw [← Bool.not_eq_true, List.all_eq_true]; intro q; rw [q _ (List.mem_range.2 h)] at g; cases g
theorem bGq {f : Nat → Bool} (h : (List.range n).all f = true) (g : i < n) : f i = true := (List.all_eq_true.1 h) _ (List.mem_range.2 g)
end
end Go.Sg
namespace Go.Sg
open Go.RowKit
def bGj (P : Program) (t : TypeId) : Option (Nat × Nat) :=
 match P.underlying t with
 | some (.array n e) => (match P.info? e, aBa P 40 e, P.underlying e with
  | some i, some a, some (.struct _) => if i.size = a.length then some (n, i.size) else none
  | _, _, _ => none)
 | _ => none
theorem aIb {P : Program} {nt : Nat} {ρ : aU} {ops : Array Oper} {o : Oper} {K : aU → Prop} {t : TypeId} {x i : Operand} {d n z : Nat} {cs : List DV} {kk : IntKind} {k : Int} (hop : o.op = .index t x i) (hg : o.guard = none) (hdst : o.dst = some d) (hd : d < nt)
  (ho : dL nt o = true) (ha : bGj P t = some (n, z)) (hx : ev ρ x = .agg cs) (hi : ev ρ i = .v (.int kk k)) (h0 : 0 ≤ k) (h1 : k.toNat < n) (hl : k.toNat * z + z ≤ cs.length)
  (hK : K (set ρ d (.agg ((cs.drop (k.toNat * z)).take z)))) : OW P nt ops o K ρ := by
 unfold bGj at ha
 split at ha <;> try cases ha
 rename_i n' e hu
 split at ha <;> try cases ha
 rename_i inf a fs hi' hk hd'
 split at ha <;> try cases ha
 rename_i hs
 refine fO hg fun I A a' w hsim => ?_
 have hxr := hsim.opd x (bL ho (by simp [hop, Op.operands])) (by rw [hx]; trivial)
 have hir := hsim.opd i (bL ho (by simp [hop, Op.operands])) (by rw [hi]; trivial)
 rw [hx] at hxr
 rw [hi] at hir
 have hie : a'.eval i = .int kk k := by
  have hir : bK w I A (.v (.int kk k)) (a'.eval i) := hir
  generalize a'.eval i = q at hir ⊢
  cases hir; rfl
 have hxr : bK w I A (.agg cs) (a'.eval x) := hxr
 generalize hxe : a'.eval x = u at hxr
 cases hxr with
 | agg _ _ vs hlen hone hrel =>
  have hp := pZ (P := P) (w := w) (X := vs) (off := k.toNat * inf.size) hk hi' hs (by rw [hs] at hl; rw [hs]; omega)
  refine ⟨vOf P e ((vs.toList.drop (k.toNat * inf.size)).take a.length), w, I, A, _, ?_, hsim.putV (o := o) (by simp [fG, hdst, hd]) ?_, eX.refl _ _ _, by rw [hdst]; exact hK⟩
  ·simp only [execOp, hop, hxe, hie, Sem.run_bind]
   have : (Instr.index t (.agg vs) (.int kk k)).run P w = .ok (vOf P e ((vs.toList.drop (k.toNat * inf.size)).take a.length)) w := by
    simp [Instr.index, asIntOf, run_underlying hu, h0, show k < (n : Int) by omega, run_sizeOf w hi', Program.cellsOf, hi']
    exact hp
   rw [this]; rfl
  unfold vOf
  rw [hd', ← hs]
  have hat : ∀ j, j < inf.size → ((vs.toList.drop (k.toNat * inf.size)).take inf.size)[j]? = vs[k.toNat * inf.size + j]? := fun j hj => by
   rw [List.getElem?_take, if_pos hj, List.getElem?_drop, Array.getElem?_toList]
  refine .agg A _ _ (by simp; omega) (fun x hx => hone x ?_) fun j d' u' hd' hu' => ?_
  ·exact List.mem_of_mem_drop (List.mem_of_mem_take (by simpa using hx))
  have hj : j < inf.size := by
   have := (List.getElem?_eq_some_iff.1 hd').1
   simp at this; omega
  rw [List.getElem?_take, if_pos hj, List.getElem?_drop] at hd'
  have hu2 : ((vs.toList.drop (k.toNat * inf.size)).take inf.size)[j]? = some u' := by simpa using hu'
  rw [hat j hj] at hu2
  exact hrel _ d' u' hd' hu2
end Go.Sg
