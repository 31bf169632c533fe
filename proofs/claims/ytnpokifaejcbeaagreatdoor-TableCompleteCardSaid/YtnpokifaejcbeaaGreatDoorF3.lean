/- Several texts as one. -/
import Derived.Test.YtnpokifaejcbeaaGreatDoorF1
import Derived.KernelRfl
import Derived.Lib.SlicesCompact
import Derived.Sort.Grow
import Derived.Test.YtnpokifaejcbeaaGreatDoorProg
set_option linter.unusedSectionVars false
set_option linter.unusedVariables false
set_option linter.unusedSimpArgs false
namespace Go.Sg
open Go.Proofs
theorem bTv : kH Tryz.prog 22 = some (9, 1, 16) := by kernel_rfl
theorem bVk : kH Tryz.prog 23 = some (91, 7, 64) := by kernel_rfl
theorem bVt : kH Tryz.prog 24 = some (82, 4, 32) := by kernel_rfl
theorem bYp : kH Tryz.prog 25 = some (51, 4, 40) := by kernel_rfl
theorem bYe : kH Tryz.prog 31 = some (46, 14, 264) := by kernel_rfl
theorem bUb : kH Tryz.prog 32 = some (3, 1, 8) := by kernel_rfl
theorem bVz : kH Tryz.prog 42 = some (85, 3, 24) := by kernel_rfl
theorem bZc : kH Tryz.prog 43 = some (68, 2, 16) := by kernel_rfl
theorem bYg : kH Tryz.prog 44 = some (49, 2, 16) := by kernel_rfl
theorem bVd : kH Tryz.prog 54 = some (42, 1, 24) := by kernel_rfl
theorem bRo : kH Tryz.prog 127 = some (43, 1, 24) := by kernel_rfl
theorem bSt : kH Tryz.prog 161 = some (32, 1, 24) := by kernel_rfl
theorem bRk : kH Tryz.prog 174 = some (22, 1, 24) := by kernel_rfl
theorem ld3 : eD Tryz.prog 3 = some (none) := by kernel_rfl
theorem ld4 : eD Tryz.prog 4 = some (none) := by kernel_rfl
theorem ld9 : eD Tryz.prog 9 = some (none) := by kernel_rfl
theorem bUa : eD Tryz.prog 22 = some (none) := by kernel_rfl
theorem cAd : eD Tryz.prog 23 = some (none) := by kernel_rfl
theorem bWh : eD Tryz.prog 24 = some (none) := by kernel_rfl
theorem bWs : eD Tryz.prog 25 = some (none) := by kernel_rfl
theorem bUf : eD Tryz.prog 26 = some (none) := by kernel_rfl
theorem bXl : eD Tryz.prog 28 = some (some (6)) := by kernel_rfl
theorem bWt : eD Tryz.prog 31 = some (none) := by kernel_rfl
theorem bVa : eD Tryz.prog 32 = some (none) := by kernel_rfl
theorem bUn : eD Tryz.prog 34 = some (some (5)) := by kernel_rfl
theorem bXq : eD Tryz.prog 42 = some (none) := by kernel_rfl
theorem bXw : eD Tryz.prog 43 = some (none) := by kernel_rfl
theorem bXe : eD Tryz.prog 44 = some (none) := by kernel_rfl
theorem bYz : eD Tryz.prog 46 = some (some (14)) := by kernel_rfl
theorem bZz : eD Tryz.prog 49 = some (some (2)) := by kernel_rfl
theorem bTw : eD Tryz.prog 51 = some (some (4)) := by kernel_rfl
theorem bZv : eD Tryz.prog 54 = some (none) := by kernel_rfl
theorem bVo : eD Tryz.prog 68 = some (some (2)) := by kernel_rfl
theorem bXn : eD Tryz.prog 82 = some (some (4)) := by kernel_rfl
theorem bYr : eD Tryz.prog 85 = some (some (3)) := by kernel_rfl
theorem bYm : eD Tryz.prog 91 = some (some (7)) := by kernel_rfl
theorem bRp : eD Tryz.prog 179 = some (some (3)) := by kernel_rfl
theorem bOr : eD Tryz.prog 184 = some (some (40)) := by kernel_rfl
theorem bYt : eU Tryz.prog 22 = some (none, 1) := by kernel_rfl
theorem bWl : eU Tryz.prog 23 = some (none, 7) := by kernel_rfl
theorem cAa : eU Tryz.prog 24 = some (none, 4) := by kernel_rfl
theorem bYb : eU Tryz.prog 25 = some (none, 4) := by kernel_rfl
theorem bVj : eU Tryz.prog 26 = some (none, 3) := by kernel_rfl
theorem bZt : eU Tryz.prog 31 = some (none, 14) := by kernel_rfl
theorem bVs : eU Tryz.prog 32 = some (none, 1) := by kernel_rfl
theorem bYw : eU Tryz.prog 42 = some (none, 3) := by kernel_rfl
theorem bXk : eU Tryz.prog 43 = some (none, 2) := by kernel_rfl
theorem bUt : eU Tryz.prog 44 = some (none, 2) := by kernel_rfl
theorem bWz : eU Tryz.prog 54 = some (none, 1) := by kernel_rfl
theorem bPc : eU Tryz.prog 121 = some (some (24), 1) := by kernel_rfl
theorem bOc : eU Tryz.prog 127 = some (none, 1) := by kernel_rfl
theorem bNn : eU Tryz.prog 161 = some (none, 1) := by kernel_rfl
theorem bNq : eU Tryz.prog 174 = some (none, 1) := by kernel_rfl
theorem bSr : eU Tryz.prog 185 = some (some (4), 1) := by kernel_rfl
theorem tk3 : tk Tryz.prog 3 = 4 := by kernel_rfl
theorem tk9 : tk Tryz.prog 9 = 1 := by kernel_rfl
theorem bWn : tk Tryz.prog 21 = 4 := by kernel_rfl
theorem bUc : tk Tryz.prog 22 = 2 := by kernel_rfl
theorem bTq : tk Tryz.prog 23 = 2 := by kernel_rfl
theorem bZh : tk Tryz.prog 24 = 2 := by kernel_rfl
theorem bVl : tk Tryz.prog 25 = 2 := by kernel_rfl
theorem bYv : tk Tryz.prog 26 = 2 := by kernel_rfl
theorem bWu : tk Tryz.prog 31 = 2 := by kernel_rfl
theorem bXd : tk Tryz.prog 32 = 2 := by kernel_rfl
theorem bXm : tk Tryz.prog 35 = 4 := by kernel_rfl
theorem bYq : tk Tryz.prog 42 = 2 := by kernel_rfl
theorem bXy : tk Tryz.prog 43 = 2 := by kernel_rfl
theorem bYd : tk Tryz.prog 44 = 2 := by kernel_rfl
theorem bZo : tk Tryz.prog 49 = 0 := by kernel_rfl
theorem bWq : tk Tryz.prog 54 = 2 := by kernel_rfl
theorem bYo : tk Tryz.prog 68 = 0 := by kernel_rfl
theorem bSb : tk Tryz.prog 127 = 2 := by kernel_rfl
theorem bOb : tk Tryz.prog 161 = 2 := by kernel_rfl
theorem bQp : tk Tryz.prog 174 = 2 := by kernel_rfl
theorem zc3 : eM Tryz.prog 3 = some ([.int .i64 0]) := by kernel_rfl
theorem zc4 : eM Tryz.prog 4 = some ([.bool false]) := by kernel_rfl
theorem zc9 : eM Tryz.prog 9 = some ([.string ⟨#[]⟩]) := by kernel_rfl
theorem bWa : eM Tryz.prog 22 = some ([.slice none 0 0]) := by kernel_rfl
theorem bWv : eM Tryz.prog 28 = some ([.string ⟨#[]⟩, .slice none 0 0, .slice none 0 0, .slice none 0 0, .slice none 0 0, .slice none 0 0]) := by kernel_rfl
theorem bWb : eM Tryz.prog 32 = some ([.slice none 0 0]) := by kernel_rfl
theorem bWg : eM Tryz.prog 34 = some ([.slice none 0 0, .slice none 0 0, .slice none 0 0, .int .i64 0, .int .i64 0]) := by kernel_rfl
theorem bZf : eM Tryz.prog 42 = some ([.slice none 0 0]) := by kernel_rfl
theorem bYn : eM Tryz.prog 43 = some ([.slice none 0 0]) := by kernel_rfl
theorem bUd : eM Tryz.prog 46 = some ([.string ⟨#[]⟩, .int .i64 0, .int .i64 0, .slice none 0 0, .slice none 0 0, .slice none 0 0, .int .i64 0, .int .i64 0, .slice none 0 0, .slice none 0 0, .slice none 0 0, .slice none 0 0, .slice none 0 0, .slice none 0 0]) := by kernel_rfl
theorem bVy : eM Tryz.prog 49 = some ([.int .i64 0, .int .i64 0]) := by kernel_rfl
theorem bUo : eM Tryz.prog 51 = some ([.string ⟨#[]⟩, .int .i64 0, .int .i64 0, .int .i64 0]) := by kernel_rfl
theorem bYj : eM Tryz.prog 68 = some ([.int .i64 0, .int .i64 0]) := by kernel_rfl
theorem bUr : eM Tryz.prog 82 = some ([.int .i64 0, .int .i64 0, .int .i64 0, .int .i64 0]) := by kernel_rfl
theorem bXo : eM Tryz.prog 85 = some ([.int .i64 0, .int .i64 0, .int .i64 0]) := by kernel_rfl
theorem bZx : eM Tryz.prog 91 = some ([.string ⟨#[]⟩, .int .i64 0, .int .i64 0, .int .i64 0, .int .i64 0, .int .i64 0, .int .i64 0]) := by kernel_rfl
theorem bNv : eM Tryz.prog 121 = some ([.bool false, .bool false, .bool false, .bool false, .bool false, .bool false, .bool false, .bool false, .bool false, .bool false, .bool false, .bool false, .bool false, .bool false, .bool false, .bool false, .bool false, .bool false, .bool false, .bool false, .bool false, .bool false, .bool false, .bool false]) := by kernel_rfl
theorem bQs : eM Tryz.prog 138 = some ([.string ⟨#[]⟩, .slice none 0 0, .slice none 0 0, .slice none 0 0, .slice none 0 0, .slice none 0 0, .slice none 0 0]) := by kernel_rfl
theorem bSg : eM Tryz.prog 179 = some ([.int .i64 0, .int .i64 0, .int .i64 0]) := by kernel_rfl
theorem bNy : eM Tryz.prog 183 = some ([.int .i64 0, .int .i64 0, .int .i64 0, .int .i64 0]) := by kernel_rfl
theorem bRg : eM Tryz.prog 188 = some ([.int .i64 0, .int .i64 0]) := by kernel_rfl
theorem sz3 : jH Tryz.prog 3 = some (1) := by kernel_rfl
theorem sz4 : jH Tryz.prog 4 = some (1) := by kernel_rfl
theorem sz9 : jH Tryz.prog 9 = some (1) := by kernel_rfl
theorem bVe : jH Tryz.prog 23 = some (1) := by kernel_rfl
theorem bUh : jH Tryz.prog 24 = some (1) := by kernel_rfl
theorem bVn : jH Tryz.prog 25 = some (1) := by kernel_rfl
theorem bYk : jH Tryz.prog 28 = some (6) := by kernel_rfl
theorem bUz : jH Tryz.prog 31 = some (1) := by kernel_rfl
theorem bVm : jH Tryz.prog 32 = some (1) := by kernel_rfl
theorem bZp : jH Tryz.prog 34 = some (5) := by kernel_rfl
theorem bWo : jH Tryz.prog 42 = some (1) := by kernel_rfl
theorem bZm : jH Tryz.prog 43 = some (1) := by kernel_rfl
theorem bWj : jH Tryz.prog 44 = some (1) := by kernel_rfl
theorem bZa : jH Tryz.prog 46 = some (14) := by kernel_rfl
theorem bXv : jH Tryz.prog 49 = some (2) := by kernel_rfl
theorem bUe : jH Tryz.prog 51 = some (4) := by kernel_rfl
theorem bZn : jH Tryz.prog 54 = some (1) := by kernel_rfl
theorem bUl : jH Tryz.prog 68 = some (2) := by kernel_rfl
theorem cAb : jH Tryz.prog 82 = some (4) := by kernel_rfl
theorem bUv : jH Tryz.prog 85 = some (3) := by kernel_rfl
theorem bXg : jH Tryz.prog 91 = some (7) := by kernel_rfl
theorem bPt : jH Tryz.prog 138 = some (7) := by kernel_rfl
theorem bRt : jH Tryz.prog 179 = some (3) := by kernel_rfl
theorem bOo : jH Tryz.prog 183 = some (4) := by kernel_rfl
theorem hb9 : aQ Tryz.prog 9 = true := by kernel_rfl
theorem bZu : aQ Tryz.prog 10 = true := by kernel_rfl
theorem bVw : aQ Tryz.prog 11 = true := by kernel_rfl
theorem bXz : aQ Tryz.prog 15 = true := by kernel_rfl
theorem bZs : aQ Tryz.prog 17 = true := by kernel_rfl
theorem bZd : aQ Tryz.prog 18 = true := by kernel_rfl
theorem bTr : aQ Tryz.prog 19 = true := by kernel_rfl
theorem bZl : aQ Tryz.prog 20 = true := by kernel_rfl
theorem bYa : aQ Tryz.prog 21 = true := by kernel_rfl
theorem bWe : aQ Tryz.prog 22 = true := by kernel_rfl
theorem bVu : aQ Tryz.prog 23 = true := by kernel_rfl
theorem bWi : aQ Tryz.prog 25 = true := by kernel_rfl
theorem bWw : aQ Tryz.prog 27 = true := by kernel_rfl
theorem bYy : aQ Tryz.prog 29 = true := by kernel_rfl
theorem bTu : aQ Tryz.prog 30 = true := by kernel_rfl
theorem bXb : aQ Tryz.prog 32 = true := by kernel_rfl
theorem bZk : aQ Tryz.prog 33 = true := by kernel_rfl
theorem bXt : aQ Tryz.prog 34 = true := by kernel_rfl
theorem bZg : aQ Tryz.prog 35 = true := by kernel_rfl
theorem bVx : aQ Tryz.prog 36 = true := by kernel_rfl
theorem bUs : aQ Tryz.prog 37 = true := by kernel_rfl
theorem bUu : aQ Tryz.prog 38 = true := by kernel_rfl
theorem bUm : aQ Tryz.prog 39 = true := by kernel_rfl
theorem bXf : aQ Tryz.prog 44 = true := by kernel_rfl
theorem bUi : aQ Tryz.prog 45 = true := by kernel_rfl
theorem bXp : aQ Tryz.prog 46 = true := by kernel_rfl
theorem bYc : aQ Tryz.prog 47 = true := by kernel_rfl
theorem bWy : aQ Tryz.prog 48 = true := by kernel_rfl
theorem bZq : aQ Tryz.prog 52 = true := by kernel_rfl
theorem bWx : aQ Tryz.prog 54 = true := by kernel_rfl
theorem bUw : aQ Tryz.prog 55 = true := by kernel_rfl
theorem bVc : aQ Tryz.prog 56 = true := by kernel_rfl
theorem bTp : aQ Tryz.prog 57 = true := by kernel_rfl
theorem bXj : aQ Tryz.prog 58 = true := by kernel_rfl
theorem bUx : aQ Tryz.prog 59 = true := by kernel_rfl
theorem bWr : aQ Tryz.prog 60 = true := by kernel_rfl
theorem bUk : aQ Tryz.prog 61 = true := by kernel_rfl
theorem bYs : aQ Tryz.prog 62 = true := by kernel_rfl
theorem bVr : aQ Tryz.prog 63 = true := by kernel_rfl
theorem bUy : aQ Tryz.prog 64 = true := by kernel_rfl
theorem bTy : aQ Tryz.prog 66 = true := by kernel_rfl
theorem bXh : aQ Tryz.prog 67 = true := by kernel_rfl
theorem bTs : aQ Tryz.prog 69 = true := by kernel_rfl
theorem bYl : aQ Tryz.prog 70 = true := by kernel_rfl
theorem bVb : aQ Tryz.prog 72 = true := by kernel_rfl
theorem bVv : aQ Tryz.prog 73 = true := by kernel_rfl
theorem bYf : aQ Tryz.prog 74 = true := by kernel_rfl
theorem bWf : aQ Tryz.prog 75 = true := by kernel_rfl
theorem bXr : aQ Tryz.prog 76 = true := by kernel_rfl
theorem bUq : aQ Tryz.prog 77 = true := by kernel_rfl
theorem bZb : aQ Tryz.prog 78 = true := by kernel_rfl
theorem bWk : aQ Tryz.prog 81 = true := by kernel_rfl
theorem bZj : aQ Tryz.prog 84 = true := by kernel_rfl
theorem bUg : aQ Tryz.prog 85 = true := by kernel_rfl
theorem bVf : aQ Tryz.prog 86 = true := by kernel_rfl
theorem bUp : aQ Tryz.prog 87 = true := by kernel_rfl
theorem bNs : aQ Tryz.prog 100 = true := by kernel_rfl
theorem bQo : aQ Tryz.prog 102 = true := by kernel_rfl
theorem bNo : aQ Tryz.prog 103 = true := by kernel_rfl
theorem bTk : aQ Tryz.prog 104 = true := by kernel_rfl
theorem bRz : aQ Tryz.prog 107 = true := by kernel_rfl
theorem bQb : aQ Tryz.prog 108 = true := by kernel_rfl
theorem bQn : aQ Tryz.prog 109 = true := by kernel_rfl
theorem bRc : aQ Tryz.prog 110 = true := by kernel_rfl
theorem bQe : aQ Tryz.prog 111 = true := by kernel_rfl
theorem bQx : aQ Tryz.prog 112 = true := by kernel_rfl
theorem bRr : aQ Tryz.prog 113 = true := by kernel_rfl
theorem bQk : aQ Tryz.prog 114 = true := by kernel_rfl
theorem bSd : aQ Tryz.prog 117 = true := by kernel_rfl
theorem bSi : aQ Tryz.prog 118 = true := by kernel_rfl
theorem bPx : aQ Tryz.prog 120 = true := by kernel_rfl
theorem bSj : aQ Tryz.prog 121 = true := by kernel_rfl
theorem bOl : aQ Tryz.prog 122 = true := by kernel_rfl
theorem bPf : aQ Tryz.prog 123 = true := by kernel_rfl
theorem bSo : aQ Tryz.prog 124 = true := by kernel_rfl
theorem bQd : aQ Tryz.prog 126 = true := by kernel_rfl
theorem bSv : aQ Tryz.prog 128 = true := by kernel_rfl
theorem bOw : aQ Tryz.prog 129 = true := by kernel_rfl
theorem bQy : aQ Tryz.prog 130 = true := by kernel_rfl
theorem bTa : aQ Tryz.prog 131 = true := by kernel_rfl
theorem bSl : aQ Tryz.prog 132 = true := by kernel_rfl
theorem bQm : aQ Tryz.prog 133 = true := by kernel_rfl
theorem bOs : aQ Tryz.prog 134 = true := by kernel_rfl
theorem bPh : aQ Tryz.prog 136 = true := by kernel_rfl
theorem bRd : aQ Tryz.prog 155 = true := by kernel_rfl
theorem bNt : aQ Tryz.prog 156 = true := by kernel_rfl
theorem bRy : aQ Tryz.prog 167 = true := by kernel_rfl
theorem bSz : aQ Tryz.prog 168 = true := by kernel_rfl
theorem bQf : aQ Tryz.prog 169 = true := by kernel_rfl
theorem bPy : aQ Tryz.prog 170 = true := by kernel_rfl
theorem bSa : aQ Tryz.prog 171 = true := by kernel_rfl
theorem bQq : aQ Tryz.prog 172 = true := by kernel_rfl
theorem bRm : aQ Tryz.prog 174 = true := by kernel_rfl
theorem bRh : aQ Tryz.prog 176 = true := by kernel_rfl
theorem bTm : aQ Tryz.prog 177 = true := by kernel_rfl
theorem bNp : aQ Tryz.prog 178 = true := by kernel_rfl
theorem bQl : aQ Tryz.prog 188 = true := by kernel_rfl
theorem bQz : aQ Tryz.prog 190 = true := by kernel_rfl
theorem bPr : aQ Tryz.prog 191 = true := by kernel_rfl
theorem bTg : aQ Tryz.prog 211 = true := by kernel_rfl
theorem bPv : aQ Tryz.prog 215 = true := by kernel_rfl
theorem bPk : aQ Tryz.prog 216 = true := by kernel_rfl
theorem bOe : aQ Tryz.prog 222 = true := by kernel_rfl
theorem bQw : aQ Tryz.prog 228 = true := by kernel_rfl
theorem bXu : qZ Tryz.prog 49 = some ([1, 1]) := by kernel_rfl
theorem bYh : qZ Tryz.prog 68 = some ([1, 1]) := by kernel_rfl
theorem bTt : qZ Tryz.prog 85 = some ([1, 1, 1]) := by kernel_rfl
theorem cAc : nQ Tryz.prog 28 = true := by kernel_rfl
theorem bYi : nQ Tryz.prog 34 = true := by kernel_rfl
theorem bXi : nQ Tryz.prog 46 = true := by kernel_rfl
theorem bYu : nQ Tryz.prog 49 = true := by kernel_rfl
theorem bTx : nQ Tryz.prog 51 = true := by kernel_rfl
theorem bWm : nQ Tryz.prog 68 = true := by kernel_rfl
theorem bXx : nQ Tryz.prog 82 = true := by kernel_rfl
theorem bWp : nQ Tryz.prog 85 = true := by kernel_rfl
theorem bYx : nQ Tryz.prog 91 = true := by kernel_rfl
theorem bPg : nQ Tryz.prog 138 = true := by kernel_rfl
theorem bTc : nQ Tryz.prog 188 = true := by kernel_rfl
theorem bZi : aFe Tryz.prog 78 = some (.bool false) := by kernel_rfl
theorem bFs : b7 Tryz.prog 28 0 = some (0) := by kernel_rfl
theorem bHe : b7 Tryz.prog 28 1 = some (1) := by kernel_rfl
theorem bGs : b7 Tryz.prog 28 2 = some (2) := by kernel_rfl
theorem bLt : b7 Tryz.prog 28 3 = some (3) := by kernel_rfl
theorem bMb : b7 Tryz.prog 28 4 = some (4) := by kernel_rfl
theorem bJj : b7 Tryz.prog 28 5 = some (5) := by kernel_rfl
theorem bFo : b7 Tryz.prog 34 0 = some (0) := by kernel_rfl
theorem bJb : b7 Tryz.prog 34 1 = some (1) := by kernel_rfl
theorem bLr : b7 Tryz.prog 34 2 = some (2) := by kernel_rfl
theorem bMv : b7 Tryz.prog 34 3 = some (3) := by kernel_rfl
theorem bLb : b7 Tryz.prog 34 4 = some (4) := by kernel_rfl
theorem bHn : b7 Tryz.prog 46 0 = some (0) := by kernel_rfl
theorem bFz : b7 Tryz.prog 46 1 = some (1) := by kernel_rfl
theorem bKb : b7 Tryz.prog 46 2 = some (2) := by kernel_rfl
theorem bKa : b7 Tryz.prog 46 3 = some (3) := by kernel_rfl
theorem bLq : b7 Tryz.prog 46 4 = some (4) := by kernel_rfl
theorem bHd : b7 Tryz.prog 46 5 = some (5) := by kernel_rfl
theorem bNb : b7 Tryz.prog 46 6 = some (6) := by kernel_rfl
theorem bHk : b7 Tryz.prog 46 7 = some (7) := by kernel_rfl
theorem bIv : b7 Tryz.prog 46 8 = some (8) := by kernel_rfl
theorem bNe : b7 Tryz.prog 46 9 = some (9) := by kernel_rfl
theorem bDs : b7 Tryz.prog 46 10 = some (10) := by kernel_rfl
theorem aYd : b7 Tryz.prog 46 11 = some (11) := by kernel_rfl
theorem bAo : b7 Tryz.prog 46 12 = some (12) := by kernel_rfl
theorem bDn : b7 Tryz.prog 46 13 = some (13) := by kernel_rfl
theorem bKc : b7 Tryz.prog 49 0 = some (0) := by kernel_rfl
theorem bMk : b7 Tryz.prog 49 1 = some (1) := by kernel_rfl
theorem bHf : b7 Tryz.prog 51 0 = some (0) := by kernel_rfl
theorem bIn : b7 Tryz.prog 51 1 = some (1) := by kernel_rfl
theorem bJo : b7 Tryz.prog 51 2 = some (3) := by kernel_rfl
theorem bGi : b7 Tryz.prog 68 0 = some (0) := by kernel_rfl
theorem bKv : b7 Tryz.prog 68 1 = some (1) := by kernel_rfl
theorem bGj : b7 Tryz.prog 82 0 = some (0) := by kernel_rfl
theorem bJt : b7 Tryz.prog 82 1 = some (2) := by kernel_rfl
theorem bMg : b7 Tryz.prog 85 0 = some (0) := by kernel_rfl
theorem bFn : b7 Tryz.prog 85 1 = some (1) := by kernel_rfl
theorem bNd : b7 Tryz.prog 85 2 = some (2) := by kernel_rfl
theorem bGl : b7 Tryz.prog 91 0 = some (0) := by kernel_rfl
theorem bJy : b7 Tryz.prog 91 1 = some (1) := by kernel_rfl
theorem bHt : b7 Tryz.prog 91 2 = some (2) := by kernel_rfl
theorem bJm : b7 Tryz.prog 91 3 = some (3) := by kernel_rfl
theorem bKx : b7 Tryz.prog 91 4 = some (4) := by kernel_rfl
theorem bGq : b7 Tryz.prog 91 5 = some (5) := by kernel_rfl
theorem bJe : b7 Tryz.prog 91 6 = some (6) := by kernel_rfl
theorem bBk : b7 Tryz.prog 138 0 = some (0) := by kernel_rfl
theorem aZv : b7 Tryz.prog 138 1 = some (6) := by kernel_rfl
theorem aZd : b7 Tryz.prog 179 0 = some (0) := by kernel_rfl
theorem bDk : b7 Tryz.prog 179 1 = some (1) := by kernel_rfl
theorem bCm : b7 Tryz.prog 179 2 = some (2) := by kernel_rfl
theorem bDp : b7 Tryz.prog 183 0 = some (0) := by kernel_rfl
theorem bBc : b7 Tryz.prog 183 1 = some (1) := by kernel_rfl
theorem aZu : b7 Tryz.prog 183 2 = some (2) := by kernel_rfl
theorem aYt : b7 Tryz.prog 183 3 = some (3) := by kernel_rfl
theorem bLf : fZ Tryz.prog 28 0 = some (0, 1) := by kernel_rfl
theorem bGw : fZ Tryz.prog 28 1 = some (1, 1) := by kernel_rfl
theorem bKp : fZ Tryz.prog 34 3 = some (3, 1) := by kernel_rfl
theorem bJl : fZ Tryz.prog 34 4 = some (4, 1) := by kernel_rfl
theorem bIi : fZ Tryz.prog 46 0 = some (0, 1) := by kernel_rfl
theorem bLe : fZ Tryz.prog 46 1 = some (1, 1) := by kernel_rfl
theorem bIq : fZ Tryz.prog 46 2 = some (2, 1) := by kernel_rfl
theorem bFr : fZ Tryz.prog 46 3 = some (3, 1) := by kernel_rfl
theorem bKn : fZ Tryz.prog 46 4 = some (4, 1) := by kernel_rfl
theorem bHq : fZ Tryz.prog 46 5 = some (5, 1) := by kernel_rfl
theorem bNf : fZ Tryz.prog 46 6 = some (6, 1) := by kernel_rfl
theorem bLz : fZ Tryz.prog 46 7 = some (7, 1) := by kernel_rfl
theorem bBp : fZ Tryz.prog 46 11 = some (11, 1) := by kernel_rfl
theorem bGa : fZ Tryz.prog 49 0 = some (0, 1) := by kernel_rfl
theorem bGr : fZ Tryz.prog 49 1 = some (1, 1) := by kernel_rfl
theorem bMz : fZ Tryz.prog 51 0 = some (0, 1) := by kernel_rfl
theorem bIk : fZ Tryz.prog 51 1 = some (1, 2) := by kernel_rfl
theorem bGy : fZ Tryz.prog 68 0 = some (0, 1) := by kernel_rfl
theorem bGb : fZ Tryz.prog 68 1 = some (1, 1) := by kernel_rfl
theorem bIx : fZ Tryz.prog 82 0 = some (0, 2) := by kernel_rfl
theorem bJg : fZ Tryz.prog 82 1 = some (2, 2) := by kernel_rfl
theorem bMc : fZ Tryz.prog 85 0 = some (0, 1) := by kernel_rfl
theorem bGg : fZ Tryz.prog 85 1 = some (1, 1) := by kernel_rfl
theorem bGu : fZ Tryz.prog 85 2 = some (2, 1) := by kernel_rfl
theorem bFt : fZ Tryz.prog 91 0 = some (0, 1) := by kernel_rfl
theorem bIm : fZ Tryz.prog 91 1 = some (1, 1) := by kernel_rfl
theorem bIw : fZ Tryz.prog 91 2 = some (2, 1) := by kernel_rfl
theorem bFw : fZ Tryz.prog 91 4 = some (4, 1) := by kernel_rfl
theorem bNl : fZ Tryz.prog 91 6 = some (6, 1) := by kernel_rfl
theorem bAb : fZ Tryz.prog 138 0 = some (0, 6) := by kernel_rfl
theorem bDy : fZ Tryz.prog 188 0 = some (0, 2) := by kernel_rfl
attribute [go_sem] bTv bVk bVt bYp bYe bUb bVz bZc bYg bVd bRo bSt bRk ld3 ld4 ld9 bUa cAd bWh bWs bUf bXl bWt bVa bUn bXq bXw bXe bYz bZz bTw bZv bVo bXn bYr bYm bRp bOr bYt bWl cAa bYb bVj bZt bVs bYw bXk bUt bWz bPc bOc bNn bNq bSr tk3 tk9 bWn bUc bTq bZh bVl bYv bWu bXd bXm bYq bXy bYd bZo bWq bYo bSb bOb bQp zc3 zc4 zc9 bWa bWv bWb bWg bZf bYn bUd bVy bUo bYj bUr bXo bZx bNv bQs bSg bNy bRg sz3 sz4 sz9 bVe bUh bVn bYk bUz bVm bZp bWo bZm bWj bZa bXv bUe bZn bUl cAb bUv bXg bPt bRt bOo hb9 bZu bVw bXz bZs bZd bTr bZl bYa bWe bVu bWi bWw bYy bTu bXb bZk bXt bZg bVx bUs bUu bUm bXf bUi bXp bYc bWy bZq bWx bUw bVc bTp bXj bUx bWr bUk bYs bVr bUy bTy bXh bTs bYl bVb bVv bYf bWf bXr bUq bZb bWk bZj bUg bVf bUp bNs bQo bNo bTk bRz bQb bQn bRc bQe bQx bRr bQk bSd bSi bPx bSj bOl bPf bSo bQd bSv bOw bQy bTa bSl bQm bOs bPh bRd bNt bRy bSz bQf bPy bSa bQq bRm bRh bTm bNp bQl bQz bPr bTg bPv bPk bOe bQw bXu bYh bTt cAc bYi bXi bYu bTx bWm bXx bWp bYx bPg bTc bZi bFs bHe bGs bLt bMb bJj bFo bJb bLr bMv bLb bHn bFz bKb bKa bLq bHd bNb bHk bIv bNe bDs aYd bAo bDn bKc bMk bHf bIn bJo bGi bKv bGj bJt bMg bFn bNd bGl bJy bHt bJm bKx bGq bJe bBk aZv aZd bDk bCm bDp bBc aZu aYt bLf bGw bKp bJl bIi bLe bIq bFr bKn bHq bNf bLz bBp bGa bGr bMz bIk bGy bGb bIx bJg bMc bGg bGu bFt bIm bIw bFw bNl bAb bDy
theorem fH : Tryz.prog.follows .mixedOrders = true := by kernel_rfl
end Go.Sg
namespace Go.Sg
open Go.Proofs
structure aW where
 fEl : Int
 fIn : Int
 fOut : Int
 deriving DecidableEq
instance : Inhabited aW := ⟨⟨default, default, default⟩⟩
def bO (x : aW) : List DV := [vi x.fEl, vi x.fIn, vi x.fOut]
theorem aXj (l : List aW) (xel : Int) (xin : Int) (xout : Int) : l.map bO ++ [[vi xel, vi xin, vi xout]] = (l ++ [(⟨xel, xin, xout⟩ : aW)]).map bO := by simp [bO]
theorem bCp (l : List aW) : ((List.range l.length).map fun i => [vi (l.getD i default).fEl, vi (l.getD i default).fIn, vi (l.getD i default).fOut]) = l.map bO := nH bO l
theorem aCz (x y : aW) : x = y ↔ x.fEl = y.fEl ∧ x.fIn = y.fIn ∧ x.fOut = y.fOut := by cases x; cases y; simp
structure aN where
 fEl : Int
 fPos : Int
 deriving DecidableEq
instance : Inhabited aN := ⟨⟨default, default⟩⟩
def a7 (x : aN) : List DV := [vi x.fEl, vi x.fPos]
theorem aIh (l : List aN) (xel : Int) (xpos : Int) : l.map a7 ++ [[vi xel, vi xpos]] = (l ++ [(⟨xel, xpos⟩ : aN)]).map a7 := by simp [a7]
theorem aKp (l : List aN) : ((List.range l.length).map fun i => [vi (l.getD i default).fEl, vi (l.getD i default).fPos]) = l.map a7 := nH a7 l
theorem fQ (x y : aN) : x = y ↔ x.fEl = y.fEl ∧ x.fPos = y.fPos := by cases x; cases y; simp
structure cG where
 fEl : Int
 fSide : Int
 deriving DecidableEq
instance : Inhabited cG := ⟨⟨default, default⟩⟩
def cE (x : cG) : List DV := [vi x.fEl, vi x.fSide]
def aNi (x : cG) : Prop := (-9223372036854775808 ≤ x.fEl ∧ x.fEl ≤ 9223372036854775807) ∧ (-9223372036854775808 ≤ x.fSide ∧ x.fSide ≤ 9223372036854775807)
theorem bCw (l : List cG) (xel : Int) (xside : Int) : l.map cE ++ [[vi xel, vi xside]] = (l ++ [(⟨xel, xside⟩ : cG)]).map cE := by simp [cE]
theorem bHs (l : List cG) : ((List.range l.length).map fun i => [vi (l.getD i default).fEl, vi (l.getD i default).fSide]) = l.map cE := nH cE l
theorem dO (x y : cG) : x = y ↔ x.fEl = y.fEl ∧ x.fSide = y.fSide := by cases x; cases y; simp
structure a8 where
 fName : ByteArray
 fEntry : Int
 fExit : Int
 fPath : (List aW)
 fPoints : (List aN)
 fSections : (List Int)
 fApproach : Int
 fLength : Int
 fOver : (List aW)
 fOverPoints : (List aN)
 fOverSections : (List Int)
 fFlank : (List aN)
 fGuards : (List Int)
 fGaps : (List cG)
 deriving DecidableEq
instance : Inhabited a8 := ⟨⟨default, default, default, default, default, default, default, default, default, default, default, default, default, default⟩⟩
def bB (x : a8) : List DV := [vs x.fName, vi x.fEntry, vi x.fExit, encL 3 bO x.fPath, encL 2 a7 x.fPoints, encL 1 eI x.fSections, vi x.fApproach, vi x.fLength, encL 3 bO x.fOver, encL 2 a7 x.fOverPoints, encL 1 eI x.fOverSections, encL 2 a7 x.fFlank, encL 1 eI x.fGuards, encL 2 cE x.fGaps]
theorem aTj (x y : a8) : x = y ↔ x.fName = y.fName ∧ x.fEntry = y.fEntry ∧ x.fExit = y.fExit ∧ x.fPath = y.fPath ∧ x.fPoints = y.fPoints ∧ x.fSections = y.fSections ∧ x.fApproach = y.fApproach ∧ x.fLength = y.fLength ∧ x.fOver = y.fOver ∧ x.fOverPoints = y.fOverPoints ∧ x.fOverSections = y.fOverSections ∧ x.fFlank = y.fFlank ∧ x.fGuards = y.fGuards ∧ x.fGaps = y.fGaps := by cases x; cases y; simp
structure cP where
 fRoutes : (List a8)
 fPoints : (List Int)
 fHomes : (List Int)
 fSections : Int
 fSignals : Int
 deriving DecidableEq
instance : Inhabited cP := ⟨⟨default, default, default, default, default⟩⟩
def dK (x : cP) : List DV := [encL 14 bB x.fRoutes, encL 1 eI x.fPoints, encL 1 eI x.fHomes, vi x.fSections, vi x.fSignals]
theorem aXa (x y : cP) : x = y ↔ x.fRoutes = y.fRoutes ∧ x.fPoints = y.fPoints ∧ x.fHomes = y.fHomes ∧ x.fSections = y.fSections ∧ x.fSignals = y.fSignals := by cases x; cases y; simp
theorem aYb : Dec Tryz.prog 9 eS (fun s => s.size ≤ 140737488355328) := aKn Tryz.underlying9
theorem wG : Dec Tryz.prog 3 eI (fun n => -9223372036854775808 ≤ n ∧ n ≤ 9223372036854775807) := bBq Tryz.underlying3
theorem aWd : Dec Tryz.prog 49 cE aNi := fun H enc w sp held fuel cs x h hw => by
 obtain ⟨a0, k0, r0⟩ := cL (s := 1) Tryz.underlying49 h hw 0 rfl (by kernel_rfl) wG
 obtain ⟨a1, k1, r1⟩ := cL (s := 1) Tryz.underlying49 h hw 1 rfl (by kernel_rfl) wG
 have hl : cs.length = 2 := by obtain ⟨_, _, _, _, h1, _⟩ := DataW.trod_struct Tryz.underlying49 h; exact h1.trans (by kernel_rfl)
 exact ⟨⟨a0, a1⟩, ⟨k0, k1⟩, (RC.join (o := 0) (s := 1) r0 (RC.join (o := 1) (s := 1) r1 (RC.stop hl)))⟩
structure jD where
 fName : ByteArray
 fKind : Int
 fLength : Int
 fGrade : Int
 fSpeed : Int
 fSlow : Int
 fSection : Int
 deriving DecidableEq
instance : Inhabited jD := ⟨⟨default, default, default, default, default, default, default⟩⟩
def fN (x : jD) : List DV := [vs x.fName, vi x.fKind, vi x.fLength, vi x.fGrade, vi x.fSpeed, vi x.fSlow, vi x.fSection]
def vH (x : jD) : Prop := (x.fName.size ≤ 140737488355328) ∧ (-9223372036854775808 ≤ x.fKind ∧ x.fKind ≤ 9223372036854775807) ∧ (-9223372036854775808 ≤ x.fLength ∧ x.fLength ≤ 9223372036854775807) ∧ (-9223372036854775808 ≤ x.fGrade ∧ x.fGrade ≤ 9223372036854775807) ∧ (-9223372036854775808 ≤ x.fSpeed ∧ x.fSpeed ≤ 9223372036854775807) ∧ (-9223372036854775808 ≤ x.fSlow ∧ x.fSlow ≤ 9223372036854775807) ∧ (-9223372036854775808 ≤ x.fSection ∧ x.fSection ≤ 9223372036854775807)
theorem aHc (l : List jD) (xname : ByteArray) (xkind : Int) (xlength : Int) (xgrade : Int) (xspeed : Int) (xslow : Int) (xsection : Int) : l.map fN ++ [[vs xname, vi xkind, vi xlength, vi xgrade, vi xspeed, vi xslow, vi xsection]] = (l ++ [(⟨xname, xkind, xlength, xgrade, xspeed, xslow, xsection⟩ : jD)]).map fN := by simp [fN]
structure gV where
 fA : cG
 fB : cG
 deriving DecidableEq
instance : Inhabited gV := ⟨⟨default, default⟩⟩
def rY (x : gV) : List DV := [vi x.fA.fEl, vi x.fA.fSide, vi x.fB.fEl, vi x.fB.fSide]
def aEt (x : gV) : Prop := (aNi x.fA) ∧ (aNi x.fB)
structure jF where
 fName : ByteArray
 fAt : cG
 fOverlap : Int
 deriving DecidableEq
instance : Inhabited jF := ⟨⟨default, default, default⟩⟩
def gA (x : jF) : List DV := [vs x.fName, vi x.fAt.fEl, vi x.fAt.fSide, vi x.fOverlap]
def yS (x : jF) : Prop := (x.fName.size ≤ 140737488355328) ∧ (aNi x.fAt) ∧ (-9223372036854775808 ≤ x.fOverlap ∧ x.fOverlap ≤ 9223372036854775807)
structure oN where
 fId : Int
 fEl : Int
 fOffset : Int
 deriving DecidableEq
instance : Inhabited oN := ⟨⟨default, default, default⟩⟩
def qP (x : oN) : List DV := [vi x.fId, vi x.fEl, vi x.fOffset]
def zT (x : oN) : Prop := (-9223372036854775808 ≤ x.fId ∧ x.fId ≤ 9223372036854775807) ∧ (-9223372036854775808 ≤ x.fEl ∧ x.fEl ≤ 9223372036854775807) ∧ (-9223372036854775808 ≤ x.fOffset ∧ x.fOffset ≤ 9223372036854775807)
structure aB where
 fName : ByteArray
 fSections : (List ByteArray)
 fElements : (List jD)
 fJoints : (List gV)
 fSignals : (List jF)
 fBalises : (List oN)
 deriving DecidableEq
instance : Inhabited aB := ⟨⟨default, default, default, default, default, default⟩⟩
def aK (x : aB) : List DV := [vs x.fName, encL 1 eS x.fSections, encL 7 fN x.fElements, encL 4 rY x.fJoints, encL 4 gA x.fSignals, encL 3 qP x.fBalises]
def uF (x : aB) : Prop := (x.fName.size ≤ 140737488355328) ∧ ((∀ a ∈ x.fSections, a.size ≤ 140737488355328) ∧ x.fSections.length ≤ 140737488355328) ∧ ((∀ a ∈ x.fElements, vH a) ∧ x.fElements.length ≤ 140737488355328) ∧ ((∀ a ∈ x.fJoints, aEt a) ∧ x.fJoints.length ≤ 140737488355328) ∧ ((∀ a ∈ x.fSignals, yS a) ∧ x.fSignals.length ≤ 140737488355328) ∧ ((∀ a ∈ x.fBalises, zT a) ∧ x.fBalises.length ≤ 140737488355328)
theorem bRa : Dec Tryz.prog 22 (fun l : (List ByteArray) => [encL 1 eS l]) (fun l => (∀ a ∈ l, a.size ≤ 140737488355328) ∧ l.length ≤ 140737488355328) := nD Tryz.underlying22 (by kernel_rfl) (by decide) (of_decide_eq_true (by kernel_rfl)) aYb (fun _ => rfl)
theorem bPq : Dec Tryz.prog 91 fN vH := fun H enc w sp held fuel cs x h hw => by
 obtain ⟨a0, k0, r0⟩ := cL (s := 1) Tryz.underlying91 h hw 0 rfl (by kernel_rfl) aYb
 obtain ⟨a1, k1, r1⟩ := cL (s := 1) Tryz.underlying91 h hw 1 rfl (by kernel_rfl) wG
 obtain ⟨a2, k2, r2⟩ := cL (s := 1) Tryz.underlying91 h hw 2 rfl (by kernel_rfl) wG
 obtain ⟨a3, k3, r3⟩ := cL (s := 1) Tryz.underlying91 h hw 3 rfl (by kernel_rfl) wG
 obtain ⟨a4, k4, r4⟩ := cL (s := 1) Tryz.underlying91 h hw 4 rfl (by kernel_rfl) wG
 obtain ⟨a5, k5, r5⟩ := cL (s := 1) Tryz.underlying91 h hw 5 rfl (by kernel_rfl) wG
 obtain ⟨a6, k6, r6⟩ := cL (s := 1) Tryz.underlying91 h hw 6 rfl (by kernel_rfl) wG
 have hl : cs.length = 7 := by obtain ⟨_, _, _, _, h1, _⟩ := DataW.trod_struct Tryz.underlying91 h; exact h1.trans (by kernel_rfl)
 exact ⟨⟨a0, a1, a2, a3, a4, a5, a6⟩, ⟨k0, k1, k2, k3, k4, k5, k6⟩, (RC.join (o := 0) (s := 1) r0 (RC.join (o := 1) (s := 1) r1 (RC.join (o := 2) (s := 1) r2 (RC.join (o := 3) (s := 1) r3 (RC.join (o := 4) (s := 1) r4 (RC.join (o := 5) (s := 1) r5 (RC.join (o := 6) (s := 1) r6 (RC.stop hl))))))))⟩
theorem bOx : Dec Tryz.prog 23 (fun l : (List jD) => [encL 7 fN l]) (fun l => (∀ a ∈ l, vH a) ∧ l.length ≤ 140737488355328) := nD Tryz.underlying23 (by kernel_rfl) (by decide) (of_decide_eq_true (by kernel_rfl)) bPq (fun _ => rfl)
theorem bRv : Dec Tryz.prog 82 rY aEt := fun H enc w sp held fuel cs x h hw => by
 obtain ⟨a0, k0, r0⟩ := cL (s := 2) Tryz.underlying82 h hw 0 rfl (by kernel_rfl) aWd
 obtain ⟨a1, k1, r1⟩ := cL (s := 2) Tryz.underlying82 h hw 1 rfl (by kernel_rfl) aWd
 have hl : cs.length = 4 := by obtain ⟨_, _, _, _, h1, _⟩ := DataW.trod_struct Tryz.underlying82 h; exact h1.trans (by kernel_rfl)
 exact ⟨⟨a0, a1⟩, ⟨k0, k1⟩, (RC.join (o := 0) (s := 2) r0 (RC.join (o := 2) (s := 2) r1 (RC.stop hl)))⟩
theorem bNx : Dec Tryz.prog 24 (fun l : (List gV) => [encL 4 rY l]) (fun l => (∀ a ∈ l, aEt a) ∧ l.length ≤ 140737488355328) := nD Tryz.underlying24 (by kernel_rfl) (by decide) (of_decide_eq_true (by kernel_rfl)) bRv (fun _ => rfl)
theorem bOn : Dec Tryz.prog 51 gA yS := fun H enc w sp held fuel cs x h hw => by
 obtain ⟨a0, k0, r0⟩ := cL (s := 1) Tryz.underlying51 h hw 0 rfl (by kernel_rfl) aYb
 obtain ⟨a1, k1, r1⟩ := cL (s := 2) Tryz.underlying51 h hw 1 rfl (by kernel_rfl) aWd
 obtain ⟨a2, k2, r2⟩ := cL (s := 1) Tryz.underlying51 h hw 2 rfl (by kernel_rfl) wG
 have hl : cs.length = 4 := by obtain ⟨_, _, _, _, h1, _⟩ := DataW.trod_struct Tryz.underlying51 h; exact h1.trans (by kernel_rfl)
 exact ⟨⟨a0, a1, a2⟩, ⟨k0, k1, k2⟩, (RC.join (o := 0) (s := 1) r0 (RC.join (o := 1) (s := 2) r1 (RC.join (o := 3) (s := 1) r2 (RC.stop hl))))⟩
theorem bOg : Dec Tryz.prog 25 (fun l : (List jF) => [encL 4 gA l]) (fun l => (∀ a ∈ l, yS a) ∧ l.length ≤ 140737488355328) := nD Tryz.underlying25 (by kernel_rfl) (by decide) (of_decide_eq_true (by kernel_rfl)) bOn (fun _ => rfl)
theorem bJz : Dec Tryz.prog 179 qP zT := fun H enc w sp held fuel cs x h hw => by
 obtain ⟨a0, k0, r0⟩ := cL (s := 1) Tryz.underlying179 h hw 0 rfl (by kernel_rfl) wG
 obtain ⟨a1, k1, r1⟩ := cL (s := 1) Tryz.underlying179 h hw 1 rfl (by kernel_rfl) wG
 obtain ⟨a2, k2, r2⟩ := cL (s := 1) Tryz.underlying179 h hw 2 rfl (by kernel_rfl) wG
 have hl : cs.length = 3 := by obtain ⟨_, _, _, _, h1, _⟩ := DataW.trod_struct Tryz.underlying179 h; exact h1.trans (by kernel_rfl)
 exact ⟨⟨a0, a1, a2⟩, ⟨k0, k1, k2⟩, (RC.join (o := 0) (s := 1) r0 (RC.join (o := 1) (s := 1) r1 (RC.join (o := 2) (s := 1) r2 (RC.stop hl))))⟩
theorem bPs : Dec Tryz.prog 26 (fun l : (List oN) => [encL 3 qP l]) (fun l => (∀ a ∈ l, zT a) ∧ l.length ≤ 140737488355328) := nD Tryz.underlying26 (by kernel_rfl) (by decide) (of_decide_eq_true (by kernel_rfl)) bJz (fun _ => rfl)
theorem bEu : Dec Tryz.prog 28 aK uF := fun H enc w sp held fuel cs x h hw => by
 obtain ⟨a0, k0, r0⟩ := cL (s := 1) Tryz.underlying28 h hw 0 rfl (by kernel_rfl) aYb
 obtain ⟨a1, k1, r1⟩ := cL (s := 1) Tryz.underlying28 h hw 1 rfl (by kernel_rfl) bRa
 obtain ⟨a2, k2, r2⟩ := cL (s := 1) Tryz.underlying28 h hw 2 rfl (by kernel_rfl) bOx
 obtain ⟨a3, k3, r3⟩ := cL (s := 1) Tryz.underlying28 h hw 3 rfl (by kernel_rfl) bNx
 obtain ⟨a4, k4, r4⟩ := cL (s := 1) Tryz.underlying28 h hw 4 rfl (by kernel_rfl) bOg
 obtain ⟨a5, k5, r5⟩ := cL (s := 1) Tryz.underlying28 h hw 5 rfl (by kernel_rfl) bPs
 have hl : cs.length = 6 := by obtain ⟨_, _, _, _, h1, _⟩ := DataW.trod_struct Tryz.underlying28 h; exact h1.trans (by kernel_rfl)
 exact ⟨⟨a0, a1, a2, a3, a4, a5⟩, ⟨k0, k1, k2, k3, k4, k5⟩, (RC.join (o := 0) (s := 1) r0 (RC.join (o := 1) (s := 1) r1 (RC.join (o := 2) (s := 1) r2 (RC.join (o := 3) (s := 1) r3 (RC.join (o := 4) (s := 1) r4 (RC.join (o := 5) (s := 1) r5 (RC.stop hl)))))))⟩
attribute [go_sem] bO aXj bCp a7 aIh aKp cE bCw bHs bB dK fN aHc rY gA qP aK
end Go.Sg
namespace Go.Sg
open Go.RowKit
structure aEp (w w' : World) (g : Nat) (e : TypeId) (us : Array Value) : Prop where
 os : w'.os = w.os
 tape : w'.tape = w.tape ∧ w.drawn ≤ w'.drawn
 output : w'.output = w.output
 size : w.heap.size ≤ w'.heap.size
 here : w'.heap[g]? = some (.cells us e (0, 0))
 other : ∀ k, k < w.heap.size → k ≠ g → w'.heap[k]? = w.heap[k]?
theorem zE {P : Program} {f : FuncId} {O : aS} {s : Nat} {e : TypeId} {l l' : List Int} (hs : O s = rowL e 1 eI l) (hlen : l'.length = l.length) (r : DV) (rv : Option Addr → Nat → Value) (hown : bP r = false)
  (hr : ∀ w I A B c b, A s = some (B, c) → jI B b → bH w I A r (rv b c))
  (H0 : l = [] → ∀ b c w, Calls P f #[.slice b 0 c] w fun x w' => x = .returned (rv b c) ∧ w' = w)
  (H : ∀ w g c us, w.heap[g]? = some (.cells us e (0, 0)) → us.size = c → l.length ≤ c → c ≤ maxLen → 0 < l.length → (∀ i, i < l.length → us[i]? = some (.int .i64 (l.getD i 0))) →
   Calls P f #[.slice (some ⟨g, 0, none⟩) l.length c] w fun x w' => x = .returned (rv (some ⟨g, 0, none⟩) c) ∧ ∃ us', aEp w w' g e us' ∧ us'.size = us.size ∧ ∀ i, i < l'.length → us'[i]? = some (.int .i64 (l'.getD i 0))) :
  iC P O f [.own s l.length] fun O' x => O' = set O s (rowL e 1 eI l') ∧ x = r := by
 intro w I A vals hO hl hv
 obtain ⟨x, rfl⟩ : ∃ x, vals = #[x] := by
  rcases vals with ⟨_ | ⟨x, _ | ⟨y, ys⟩⟩⟩
  ·simp at hl
  ·exact ⟨x, rfl⟩
  simp at hl
 have hx := hv 0 _ x rfl rfl
 cases hx with
 | own _ _ _ B c b hA hb =>
  have ho := hO.own s
  rw [hs] at ho
  obtain ⟨B', c', q1, q2⟩ := ho
  rw [hA] at q1
  simp only [Option.some.injEq, Prod.mk.injEq] at q1
  obtain ⟨rfl, rfl⟩ := q1
  have hfr : ∀ t, dW (O t) (set O s (rowL e 1 eI l') t) := fun t => by
   rw [aO]; split
   ·rename_i h; subst h; rw [hs]; exact ⟨rfl, rfl, by simp [hlen]⟩
   exact dW.refl _
  have hout : ∀ t, cM (O t) → cM (set O s (rowL e 1 eI l') t) := fun t ht => by
   rw [aO]; split
   ·rfl
   exact ht
  have hres : ∀ w' I', lD w w' I' A r (rv b c) := fun w' I' => by
   have := hr w' I' A B c b hA hb
   cases r <;> first | exact this | cases hown
  rcases Nat.eq_zero_or_pos l.length with h0 | h0
  ·obtain rfl : l = [] := List.eq_nil_of_length_eq_zero h0
   obtain rfl : l' = [] := List.eq_nil_of_length_eq_zero (by simpa using hlen)
   refine (H0 rfl _ _ w).mono fun _ w' ⟨k1, k2⟩ => ?_
   subst k2
   refine ⟨_, I, set O s (rowL e 1 eI []), r, k1, ⟨fun t => ?_, hO.inj, hO.sep, hO.imm⟩, hfr, hout, eA.refl _ _ _, hres _ _, rfl, rfl⟩
   rw [aO]; split
   ·rename_i h; subst h; have := hO.own t; rw [hs] at this; exact this
   exact hO.own t
  cases B with
  | none =>
   have := q2.1
   have : (List.map eI l).length = 0 := by rw [this]; rfl
   simp at this; subst this; simp at h0
  | some g =>
   obtain rfl := fL hb
   obtain ⟨us, p1, p2, p3, p4, p5⟩ := q2
   have hcont : ∀ i, i < l.length → us[i]? = some (.int .i64 (l.getD i 0)) := fun i hi => by
    have h1 : (l.map eI)[i]? = some (eI (l.getD i 0)) := by simp [List.getElem?_eq_getElem hi]
    have hb : i * 1 + 0 < us.size := by simp at p4; omega
    have := ((p5 i _ h1).2 0 _ _ rfl (Array.getElem?_eq_getElem hb)).2
    rw [show us[i]? = some (us[i * 1 + 0]'hb) by rw [← Array.getElem?_eq_getElem hb]; simp]
    generalize us[i * 1 + 0]'hb = u at this
    cases this; rfl
   refine (H w g c us p1 (by omega) (by simpa using p4) p3 h0 hcont).mono fun _ w' ⟨k1, us', k2, k3, k4⟩ => ?_
   obtain ⟨hgs, hgI⟩ := hO.sep s g c hA
   have hrel : ∀ B d x, bH w I B d x → bH w' I B d x := fun B d x h => h.mono fun k hk => ⟨hk, fun o => cY (k2.other k (hO.imm k hk) fun e => hgI (e ▸ hk)) o⟩
   refine ⟨_, I, set O s (rowL e 1 eI l'), r, k1, ⟨fun t => ?_, hO.inj, fun t k c' h => ⟨Nat.lt_of_lt_of_le (hO.sep t k c' h).1 k2.size, (hO.sep t k c' h).2⟩, hO.imm.step (fun k hk => Nat.lt_of_lt_of_le (hO.imm k hk) k2.size) fun k hk => ⟨hk, k2.other k (hO.imm k hk) fun e => hgI (e ▸ hk)⟩⟩, hfr, hout,
    ⟨k2.os, k2.tape, k2.output, k2.size, fun _ h => h, fun k hk h => ⟨k2.other k hk fun e => h s c (e ▸ hA), fun h => h, h⟩, fun t k c' h _ ht => ⟨t, c', ht, h⟩, fun _ _ => rfl⟩, hres _ _, rfl, rfl⟩
   rw [aO]; split
   ·rename_i h; subst h
    refine ⟨some g, c, hA, us', k2.here, by omega, p3, by simp at p4 ⊢; omega, fun i y hy => ?_⟩
    rw [List.getElem?_map] at hy
    cases hi : l'[i]? with
    | none => rw [hi] at hy; cases hy
    | some a =>
     rw [hi] at hy
     cases hy
     have hlt : i < l'.length := (List.getElem?_eq_some_iff.1 hi).1
     refine ⟨rfl, fun j d u hd hu => ?_⟩
     cases j with
     | zero =>
      cases hd
      have := k4 i hlt
      rw [show i * 1 + 0 = i by omega, this] at hu
      cases hu
      rw [List.getD_eq_getElem?_getD, hi]
      exact ⟨rfl, .v _ _⟩
     | succ j => simp [eI] at hd
   rename_i hne
   refine (hO.own t).keep (fun k c' h => k2.other k (hO.sep t k c' h).1 fun e => hne (hO.inj t s g c' c (e ▸ h) hA)) hrel
theorem tB {off : Nat} (l : List Int) (c : Array Value) {i : Nat} (hi : i < l.length) (hc : i < c.size) : (Sort.putCells (Value.int .i64) 0 l.toArray c)[i]? = some (.int .i64 (l.getD i 0)) := by
 unfold Sort.putCells
 rw [Array.getElem?_mapIdx, Array.getElem?_eq_getElem hc, Option.map_some, if_pos ⟨Nat.zero_le _, by simpa using hi⟩]
 simp [List.getD_eq_getElem?_getD, List.getElem?_eq_getElem hi, getElem!_pos, hi]
theorem zC {w : World} {g : Nat} {us : Array Value} {e : TypeId} (h : w.heap[g]? = some (.cells us e (0, 0))) (n : Nat) (l : List Int) (os : Array Obj) :
  aEp w (Sort.grow (Sort.putRow (Value.int .i64) (Sort.ahead w n) g 0 l.toArray) os) g e (Sort.putCells (Value.int .i64) 0 l.toArray us) := by
 have hg : g < w.heap.size := (Array.getElem?_eq_some_iff.1 h).1
 have hsz : (w.heap.modify g (Sort.onCells (Sort.putCells (Value.int .i64) 0 l.toArray))).size = w.heap.size := by simp
 have hh : ∀ k, k < w.heap.size → (Sort.grow (Sort.putRow (Value.int .i64) (Sort.ahead w n) g 0 l.toArray) os).heap[k]? = (w.heap.modify g (Sort.onCells (Sort.putCells (Value.int .i64) 0 l.toArray)))[k]? := fun k hk => by
  show (w.heap.modify g (Sort.onCells (Sort.putCells (Value.int .i64) 0 l.toArray)) ++ os)[k]? = _
  rw [Array.getElem?_append_left (by rw [hsz]; exact hk)]
 refine ⟨rfl, ⟨rfl, Nat.le_add_right _ _⟩, rfl, by simp [Sort.ahead], ?_, fun k hk hne => ?_⟩
 ·rw [hh g hg, Array.getElem?_modify, if_pos rfl, h]; rfl
 rw [hh k hk, Array.getElem?_modify, if_neg (Ne.symm hne)]
theorem aBl {w : World} {g : Nat} {us : Array Value} {e : TypeId} (h : w.heap[g]? = some (.cells us e (0, 0))) (o : Nat) : w.cell? ⟨g, o, none⟩ = us[o]? ∧ w.frozen? ⟨g, o, none⟩ = false := by
 constructor
 ·unfold World.cell?; rw [h]; rfl
 unfold World.frozen?; rw [h]; simp
theorem aFq {w : World} {g c : Nat} {us : Array Value} {e : TypeId} {l : List Int} (h : w.heap[g]? = some (.cells us e (0, 0))) (hc : ∀ i, i < l.length → us[i]? = some (.int .i64 (l.getD i 0))) : Sort.Holds (Value.int .i64) w g 0 l.toArray := fun j hj => by
 have hj' : j < l.length := by simpa using hj
 obtain ⟨k1, k2⟩ := aBl h (0 + j)
 refine ⟨?_, k2⟩
 rw [k1, Nat.zero_add, hc j hj']
 simp [List.getD_eq_getElem?_getD, List.getElem?_eq_getElem hj', getElem!_pos, hj']
abbrev srt (l : List Int) : List Int := l.mergeSort fun x y => decide (x ≤ y)
theorem aIw {P : Program} {f : FuncId} {O : aS} {s : Nat} {e : TypeId} {l : List Int} (hs : O s = rowL e 1 eI l)
  (H0 : ∀ b c w, Calls P f #[.slice b 0 c] w fun x w' => x = .returned (.tuple #[]) ∧ w' = w)
  (H : ∀ (blk off cap : Nat) (zs : List Int) (w : World), Sort.Holds (Value.int .i64) w blk off zs.toArray → blk < w.heap.size → zs.length < 4611686018427387904 →
   Calls P f #[.slice (some ⟨blk, off, none⟩) zs.length cap] w fun e w' => e = .returned (.tuple #[]) ∧ ∃ n os, w' = Sort.grow (Sort.putRow (Value.int .i64) (Sort.ahead w n) blk off (zs.mergeSort fun x y => decide (x ≤ y)).toArray) os)
  (hb : l.length < 4611686018427387904) :
  iC P O f [.own s l.length] fun O' x => O' = set O s (rowL e 1 eI (srt l)) ∧ x = .tup [] :=
 zE hs (by simp) _ (fun _ _ => .tuple #[]) rfl (fun w I A B c _ _ _ => bH.tup A [] #[] rfl (by simp)) (fun _ => H0) fun w g c us h1 h2 h3 h4 h5 h6 =>
  (H g 0 c l w (aFq (c := c) h1 h6) (Array.getElem?_eq_some_iff.1 h1).1 hb).mono fun _ w' ⟨k1, n, os, k2⟩ => ⟨k1, _, k2 ▸ zC h1 n _ os, by simp [Sort.putCells], fun i hi => tB (off := 0) _ _ hi (by simp at hi; omega)⟩
theorem aBa {P : Program} {f : FuncId} {O : aS} {s : Nat} {e : TypeId} {l : List Int} (hs : O s = rowL e 1 eI l)
  (H0 : ∀ b c w, Calls P f #[.slice b 0 c] w fun x w' => x = .returned (.slice b 0 c) ∧ w' = w)
  (H : ∀ (blk off cap : Nat) (zs : List Int) (w : World), Sort.Holds (Value.int .i64) w blk off zs.toArray → zs.length ≤ 9223372036854775807 → zs.length ≤ cap →
   Calls P f #[.slice (some ⟨blk, off, none⟩) zs.length cap] w fun e w' => e = .returned (.slice (some ⟨blk, off, none⟩) (Lib.compact zs).length cap) ∧ ∃ q, w' = Sort.putRow (Value.int .i64) (Sort.ahead w q) blk off (Lib.compact zs ++ List.replicate (zs.length - (Lib.compact zs).length) 0).toArray)
  (hle : (Lib.compact l).length ≤ l.length) :
  iC P O f [.own s l.length] fun O' x => O' = set O s (rowL e 1 eI (Lib.compact l ++ List.replicate (l.length - (Lib.compact l).length) 0)) ∧ x = .own s (Lib.compact l).length :=
 zE hs (by simp; omega) _ (fun b c => .slice b (Lib.compact l).length c) rfl (fun w I A B c b h hb => .own A s _ B c b h hb)
  (fun h b c w => by
   have : (Lib.compact l).length = 0 := by subst h; simpa using hle
   rw [this]; exact H0 b c w) fun w g c us h1 h2 h3 h4 h5 h6 =>
  (H g 0 c l w (aFq (c := c) h1 h6) (Nat.le_trans h3 h4) h3).mono fun _ w' ⟨k1, n, k2⟩ => ⟨k1, _, by
   have := zC h1 n (Lib.compact l ++ List.replicate (l.length - (Lib.compact l).length) 0) #[]
   rw [Sort.grow_empty, ← k2] at this
   exact this, by simp [Sort.putCells], fun i hi => tB (off := 0) _ _ hi (by simp at hi; omega)⟩
end Go.Sg
namespace Go.Sg
attribute [go_sem] zI
def l9 {α : Type} [Inhabited α] (f : α → Bool) (l : List α) (i : Nat) : Prop := ∀ j, j < i → f (l.getD j default) = true
section
variable {α : Type} [Inhabited α] {f : α → Bool} {l : List α} {i n : Nat}
theorem jW (f : α → Bool) (l : List α) : l9 f l 0 := fun j h => absurd h (Nat.not_lt_zero _)
theorem jZ (h : l9 f l i) (g : f (l.getD i default) = true) : l9 f l (i + 1) := fun j hj => by
 rcases Nat.lt_or_eq_of_le (Nat.le_of_lt_succ hj) with q | q
 ·exact h j q
 rw [q]; exact g
theorem dR (h : i < l.length) : l.getD i default ∈ l := by rw [List.getD_eq_getElem?_getD, List.getElem?_eq_getElem h]; exact List.getElem_mem h
theorem aXc {x : α} (h : x ∈ l) : ∃ i, i < l.length ∧ l.getD i default = x := by
 obtain ⟨i, hi, rfl⟩ := List.mem_iff_getElem.1 h
 exact ⟨i, hi, by rw [List.getD_eq_getElem?_getD, List.getElem?_eq_getElem hi]; rfl⟩
theorem pX (h : l9 f l i) (g : l.length ≤ i) : l.all f = true := by
 rw [List.all_eq_true]; intro x hx
 obtain ⟨j, hj, rfl⟩ := aXc hx
 exact h j (Nat.lt_of_lt_of_le hj g)
theorem nR (h : i < l.length) (g : f (l.getD i default) = false) : l.all f = false := by
 rw [← Bool.not_eq_true, List.all_eq_true]; intro q; rw [q _ (dR h)] at g; cases g
theorem m9 (h : l.all f = true) (g : i < l.length) : f (l.getD i default) = true := (List.all_eq_true.1 h) _ (dR g)
def oO (f : Nat → Bool) (i : Nat) : Prop := ∀ j, j < i → f j = true
theorem l4 (f : Nat → Bool) : oO f 0 := fun j h => absurd h (Nat.not_lt_zero _)
theorem mG {f : Nat → Bool} (h : oO f i) (g : f i = true) : oO f (i + 1) := fun j hj => by
 rcases Nat.lt_or_eq_of_le (Nat.le_of_lt_succ hj) with q | q
 ·exact h j q
 rw [q]; exact g
theorem uO {f : Nat → Bool} (h : oO f i) (g : n ≤ i) : (List.range n).all f = true := by
 rw [List.all_eq_true]; intro x hx; exact h x (Nat.lt_of_lt_of_le (List.mem_range.1 hx) g)
theorem rA {f : Nat → Bool} (h : i < n) (g : f i = false) : (List.range n).all f = false := by
 rw [← Bool.not_eq_true, List.all_eq_true]; intro q; rw [q _ (List.mem_range.2 h)] at g; cases g
theorem aGf {f : Nat → Bool} (h : (List.range n).all f = true) (g : i < n) : f i = true := (List.all_eq_true.1 h) _ (List.mem_range.2 g)
end
end Go.Sg
namespace Go.Sg
open Go.RowKit
def bFe (P : Program) (t : TypeId) : Option (Nat × Nat) :=
 match P.underlying t with
 | some (.array n e) => (match P.info? e, aAx P 40 e, P.underlying e with
  | some i, some a, some (.struct _) => if i.size = a.length then some (n, i.size) else none
  | _, _, _ => none)
 | _ => none
theorem aGi {P : Program} {nt : Nat} {ρ : aS} {ops : Array Oper} {o : Oper} {K : aS → Prop} {t : TypeId} {x i : Operand} {d n z : Nat} {cs : List DV} {kk : IntKind} {k : Int} (hop : o.op = .index t x i) (hg : o.guard = none) (hdst : o.dst = some d) (hd : d < nt)
  (ho : dA nt o = true) (ha : bFe P t = some (n, z)) (hx : ev ρ x = .agg cs) (hi : ev ρ i = .v (.int kk k)) (h0 : 0 ≤ k) (h1 : k.toNat < n) (hl : k.toNat * z + z ≤ cs.length)
  (hK : K (set ρ d (.agg ((cs.drop (k.toNat * z)).take z)))) : OW P nt ops o K ρ := by
 unfold bFe at ha
 split at ha <;> try cases ha
 rename_i n' e hu
 split at ha <;> try cases ha
 rename_i inf a fs hi' hk hd'
 split at ha <;> try cases ha
 rename_i hs
 refine eZ hg fun I A a' w hsim => ?_
 have hxr := hsim.opd x (bF ho (by simp [hop, Op.operands])) (by rw [hx]; trivial)
 have hir := hsim.opd i (bF ho (by simp [hop, Op.operands])) (by rw [hi]; trivial)
 rw [hx] at hxr
 rw [hi] at hir
 have hie : a'.eval i = .int kk k := by
  have hir : bH w I A (.v (.int kk k)) (a'.eval i) := hir
  generalize a'.eval i = q at hir ⊢
  cases hir; rfl
 have hxr : bH w I A (.agg cs) (a'.eval x) := hxr
 generalize hxe : a'.eval x = u at hxr
 cases hxr with
 | agg _ _ vs hlen hone hrel =>
  have hp := pB (P := P) (w := w) (X := vs) (off := k.toNat * inf.size) hk hi' hs (by rw [hs] at hl; rw [hs]; omega)
  refine ⟨vOf P e ((vs.toList.drop (k.toNat * inf.size)).take a.length), w, I, A, _, ?_, hsim.putV (o := o) (by simp [eO, hdst, hd]) ?_, eA.refl _ _ _, by rw [hdst]; exact hK⟩
  ·simp only [execOp, hop, hxe, hie, Sem.run_bind]
   have : (Instr.index t (.agg vs) (.int kk k)).run P w = .ok (vOf P e ((vs.toList.drop (k.toNat * inf.size)).take a.length)) w := by
    simp [Instr.index, asIntOf, run_underlying hu, h0, show k < (n : Int) by omega, run_sizeOf w hi', Program.cellsOf, hi']
    exact hp
   rw [this]; rfl
  unfold vOf
  rw [hd', ← hs]
  have hat : ∀ j, j < inf.size → ((vs.toList.drop (k.toNat * inf.size)).take inf.size)[j]? = vs[k.toNat * inf.size + j]? := fun j hj => by
   rw [List.getElem?_take, if_pos hj, List.getElem?_drop, Array.getElem?_toList]
  refine .agg A _ _ (by simp; omega) (fun x hx => hone x ?_) fun j d' u' hd' hu' => ?_
  ·exact List.mem_of_mem_drop (List.mem_of_mem_take (by simpa using hx))
  have hj : j < inf.size := by
   have := (List.getElem?_eq_some_iff.1 hd').1
   simp at this; omega
  rw [List.getElem?_take, if_pos hj, List.getElem?_drop] at hd'
  have hu2 : ((vs.toList.drop (k.toNat * inf.size)).take inf.size)[j]? = some u' := by simpa using hu'
  rw [hat j hj] at hu2
  exact hrel _ d' u' hd' hu2
end Go.Sg
