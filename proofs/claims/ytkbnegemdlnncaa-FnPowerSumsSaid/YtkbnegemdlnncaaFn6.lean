/- Functions of the program: plain Lean functions, and that the program computes them. Printed by gen.py. -/
import Derived.Test.YtkbnegemdlnncaaFnT
import Derived.Test.YtkbnegemdlnncaaFn1
import Derived.Test.YtkbnegemdlnncaaFn2
import Derived.Test.YtkbnegemdlnncaaFn3
import Derived.Test.YtkbnegemdlnncaaFn4
import Derived.Test.YtkbnegemdlnncaaFn5
namespace Go.Proofs.Ytkbnegemdlnncaa
open Go.Abs Go.Proofs
set_option linter.unusedSimpArgs false
set_option linter.unusedVariables false
set_option maxHeartbeats 16000000
attribute [local irreducible] Abs.acode Abs.aops Abs.aopsT Abs.thenK Abs.blockK

def laws_FnPowerSums_c : ACode := (.seq (.region 0 [q 2 (.asg 0 (.const (.bool false)) 4)] false) (.seq (.seq (.region 1 [q 44 (.mov (t 0)), q 45 (.call 0 (.func 10) [(t 44)])] false) (.cond (t 45) (.seq (.region 2 [q 2 (.asg 0 (.const (.bool true)) 4)] false) .ret) .skip)) (.seq (.region 3 [q 47 (.mov (t 0)), q 48 (.call 0 (.func 47) [(t 47)]), q 46 (.mov (t 48)), q 49 (.extract (t 46) 0), q 50 (.extract (t 46) 1), q 51 (.extract (t 46) 2), q 3 (.asg 0 (t 49) 2), q 4 (.asg 0 (t 50) 2), q 5 (.asg 0 (t 51) 2)] false) (.seq (.region 4 [q 53 (.mov (t 3)), q 54 (.mov (t 4)), q 55 (.mov (t 5)), q 56 (.call 0 (.func 48) [(t 53), (t 54), (t 55)]), q 52 (.mov (t 56)), q 57 (.extract (t 52) 0), q 58 (.extract (t 52) 1), q 6 (.alloc 25), ⟨none, .store 25 (t 6) (t 57), none, []⟩, q 7 (.asg 0 (t 58) 2)] false) (.seq (.seq (.region 5 [q 60 (.mov (t 3)), q 61 (.mov (t 4)), q 62 (.mov (t 5)), q 63 (.call 0 (.func 49) [(t 60), (t 61), (t 62)]), q 59 (.mov (t 63)), q 64 (.extract (t 59) 0), q 65 (.extract (t 59) 1), q 8 (.alloc 25), ⟨none, .store 25 (t 8) (t 64), none, []⟩, q 9 (.asg 0 (t 65) 2)] false) (.seq (.region 6 [q 66 (.mov (t 7)), q 67 (.mov (t 9)), q 68 (.bin .neq 2 (t 66) (t 67)), q 69 (.mov (t 68)), ⟨some 70, .load 25 (t 6), some (69, false), []⟩, ⟨some 71, .load 25 (t 8), some (69, false), []⟩, ⟨some 72, .bin .neq 25 (t 70) (t 71), some (69, false), []⟩, q 73 (.pick (t 69) (.const (.bool true)) (t 72))] false) (.cond (t 73) (.seq (.region 7 [q 2 (.asg 0 (.const (.bool false)) 4)] false) .ret) .skip))) (.seq (.region 8 [q 75 (.mov (t 0)), q 76 (.call 0 (.func 50) [(t 75)]), q 74 (.mov (t 76)), q 77 (.extract (t 74) 0), q 78 (.extract (t 74) 1), q 10 (.asg 0 (t 77) 2), q 11 (.asg 0 (t 78) 2)] false) (.seq (.region 9 [q 80 (.mov (t 10)), q 81 (.mov (t 11)), q 82 (.call 0 (.func 51) [(t 80), (t 81)]), q 79 (.mov (t 82)), q 83 (.extract (t 79) 0), q 84 (.extract (t 79) 1), q 12 (.asg 0 (t 83) 2), q 13 (.asg 0 (t 84) 2)] false) (.seq (.seq (.region 10 [q 86 (.mov (t 10)), q 87 (.mov (t 11)), q 88 (.call 0 (.func 52) [(t 86), (t 87)]), q 85 (.mov (t 88)), q 89 (.extract (t 85) 0), q 90 (.extract (t 85) 1), q 14 (.asg 0 (t 89) 2), q 15 (.asg 0 (t 90) 2)] false) (.seq (.region 11 [q 91 (.mov (t 13)), q 92 (.mov (t 15)), q 93 (.bin .neq 2 (t 91) (t 92)), q 94 (.mov (t 93)), ⟨some 95, .mov (t 12), some (94, false), []⟩, ⟨some 96, .mov (t 14), some (94, false), []⟩, ⟨some 97, .bin .neq 2 (t 95) (t 96), some (94, false), []⟩, q 98 (.pick (t 94) (.const (.bool true)) (t 97))] false) (.cond (t 98) (.seq (.region 12 [q 2 (.asg 0 (.const (.bool false)) 4)] false) .ret) .skip))) (.seq (.region 13 [q 100 (.mov (t 0)), q 101 (.call 0 (.func 53) [(t 100)]), q 99 (.mov (t 101)), q 102 (.extract (t 99) 0), q 103 (.extract (t 99) 1), q 16 (.asg 0 (t 102) 2), q 17 (.asg 0 (t 103) 2)] false) (.seq (.region 14 [q 105 (.mov (t 16)), q 106 (.mov (t 17)), q 107 (.call 0 (.func 54) [(t 105), (t 106)]), q 104 (.mov (t 107)), q 108 (.extract (t 104) 0), q 109 (.extract (t 104) 1), q 18 (.alloc 25), ⟨none, .store 25 (t 18) (t 108), none, []⟩, q 19 (.asg 0 (t 109) 2)] false) (.seq (.seq (.region 15 [q 111 (.mov (t 16)), q 112 (.mov (t 17)), q 113 (.call 0 (.func 55) [(t 111), (t 112)]), q 110 (.mov (t 113)), q 114 (.extract (t 110) 0), q 115 (.extract (t 110) 1), q 20 (.alloc 25), ⟨none, .store 25 (t 20) (t 114), none, []⟩, q 21 (.asg 0 (t 115) 2)] false) (.seq (.region 16 [q 116 (.mov (t 19)), q 117 (.mov (t 21)), q 118 (.bin .neq 2 (t 116) (t 117)), q 119 (.mov (t 118)), ⟨some 120, .load 25 (t 18), some (119, false), []⟩, ⟨some 121, .load 25 (t 20), some (119, false), []⟩, ⟨some 122, .bin .neq 25 (t 120) (t 121), some (119, false), []⟩, q 123 (.pick (t 119) (.const (.bool true)) (t 122))] false) (.cond (t 123) (.seq (.region 17 [q 2 (.asg 0 (.const (.bool false)) 4)] false) .ret) .skip))) (.seq (.region 18 [q 125 (.mov (t 0)), q 126 (.call 0 (.func 56) [(t 125)]), q 124 (.mov (t 126)), q 127 (.extract (t 124) 0), q 128 (.extract (t 124) 1), q 129 (.extract (t 124) 2), q 130 (.extract (t 124) 3), q 22 (.asg 0 (t 127) 2), q 23 (.asg 0 (t 128) 2), q 24 (.asg 0 (t 129) 2), q 25 (.asg 0 (t 130) 2)] false) (.seq (.region 19 [q 132 (.mov (t 22)), q 133 (.mov (t 23)), q 134 (.mov (t 24)), q 135 (.mov (t 25)), q 136 (.call 0 (.func 57) [(t 132), (t 133), (t 134), (t 135)]), q 131 (.mov (t 136)), q 137 (.extract (t 131) 0), q 138 (.extract (t 131) 1), q 26 (.alloc 25), ⟨none, .store 25 (t 26) (t 137), none, []⟩, q 27 (.asg 0 (t 138) 2)] false) (.seq (.seq (.region 20 [q 140 (.mov (t 22)), q 141 (.mov (t 23)), q 142 (.mov (t 24)), q 143 (.mov (t 25)), q 144 (.call 0 (.func 58) [(t 140), (t 141), (t 142), (t 143)]), q 139 (.mov (t 144)), q 145 (.extract (t 139) 0), q 146 (.extract (t 139) 1), q 28 (.alloc 25), ⟨none, .store 25 (t 28) (t 145), none, []⟩, q 29 (.asg 0 (t 146) 2)] false) (.seq (.region 21 [q 147 (.mov (t 27)), q 148 (.mov (t 29)), q 149 (.bin .neq 2 (t 147) (t 148)), q 150 (.mov (t 149)), ⟨some 151, .load 25 (t 26), some (150, false), []⟩, ⟨some 152, .load 25 (t 28), some (150, false), []⟩, ⟨some 153, .bin .neq 25 (t 151) (t 152), some (150, false), []⟩, q 154 (.pick (t 150) (.const (.bool true)) (t 153))] false) (.cond (t 154) (.seq (.region 22 [q 2 (.asg 0 (.const (.bool false)) 4)] false) .ret) .skip))) (.seq (.region 23 [q 156 (.mov (t 0)), q 157 (.call 0 (.func 59) [(t 156)]), q 155 (.mov (t 157)), q 158 (.extract (t 155) 0), q 159 (.extract (t 155) 1), q 30 (.asg 0 (t 158) 2), q 31 (.asg 0 (t 159) 2)] false) (.seq (.region 24 [q 161 (.mov (t 30)), q 162 (.mov (t 31)), q 163 (.call 0 (.func 60) [(t 161), (t 162)]), q 160 (.mov (t 163)), q 164 (.extract (t 160) 0), q 165 (.extract (t 160) 1), q 32 (.asg 0 (t 164) 2), q 33 (.asg 0 (t 165) 2)] false) (.seq (.seq (.region 25 [q 167 (.mov (t 30)), q 168 (.mov (t 31)), q 169 (.call 0 (.func 61) [(t 167), (t 168)]), q 166 (.mov (t 169)), q 170 (.extract (t 166) 0), q 171 (.extract (t 166) 1), q 34 (.asg 0 (t 170) 2), q 35 (.asg 0 (t 171) 2)] false) (.seq (.region 26 [q 172 (.mov (t 33)), q 173 (.mov (t 35)), q 174 (.bin .neq 2 (t 172) (t 173)), q 175 (.mov (t 174)), ⟨some 176, .mov (t 32), some (175, false), []⟩, ⟨some 177, .mov (t 34), some (175, false), []⟩, ⟨some 178, .bin .neq 2 (t 176) (t 177), some (175, false), []⟩, q 179 (.pick (t 175) (.const (.bool true)) (t 178))] false) (.cond (t 179) (.seq (.region 27 [q 2 (.asg 0 (.const (.bool false)) 4)] false) .ret) .skip))) (.seq (.seq (.region 28 [q 180 (.mov (t 19)), q 181 (.bin .eql 2 (t 180) (.const (.int .i64 0))), q 182 (.mov (t 181)), ⟨some 183, .mov (t 17), some (182, true), []⟩, ⟨some 184, .bin .gtr 2 (t 183) (.const (.int .i64 0)), some (182, true), []⟩, q 185 (.pick (t 182) (t 184) (.const (.bool false))), q 186 (.mov (t 185)), ⟨some 187, .mov (t 17), some (186, true), []⟩, ⟨some 188, .mov (t 16), some (186, true), []⟩, ⟨some 189, .bin .sub 2 (t 188) (.const (.int .i64 1)), some (186, true), []⟩, ⟨some 190, .bin .rem 2 (t 187) (t 189), some (186, true), []⟩, ⟨some 191, .bin .eql 2 (t 190) (.const (.int .i64 0)), some (186, true), []⟩, q 192 (.pick (t 186) (t 191) (.const (.bool false))), q 193 (.mov (t 192)), ⟨some 194, .load 25 (t 18), some (193, true), []⟩, ⟨some 195, .build 25 [], some (193, true), []⟩, ⟨some 196, .bin .neq 25 (t 194) (t 195), some (193, true), []⟩, q 197 (.pick (t 193) (t 196) (.const (.bool false)))] false) (.cond (t 197) (.seq (.region 29 [q 2 (.asg 0 (.const (.bool false)) 4)] false) .ret) .skip)) (.seq (.seq (.region 30 [q 198 (.mov (t 33)), q 199 (.bin .eql 2 (t 198) (.const (.int .i64 0)))] false) (.cond (t 199) (.seq (.region 31 [q 201 (.mov (t 30)), q 202 (.mov (t 32)), q 203 (.mov (t 31)), q 204 (.call 0 (.func 48) [(t 201), (t 202), (t 203)]), q 200 (.mov (t 204)), q 205 (.extract (t 200) 0), q 206 (.extract (t 200) 1), q 36 (.alloc 25), ⟨none, .store 25 (t 36) (t 205), none, []⟩, q 37 (.asg 0 (t 206) 2)] false) (.seq (.region 32 [q 207 (.mov (t 37)), q 208 (.bin .neq 2 (t 207) (.const (.int .i64 0))), q 209 (.mov (t 208)), ⟨some 210, .load 25 (t 36), some (209, false), []⟩, ⟨some 211, .build 25 [], some (209, false), []⟩, ⟨some 212, .bin .neq 25 (t 210) (t 211), some (209, false), []⟩, q 213 (.pick (t 209) (.const (.bool true)) (t 212))] false) (.cond (t 213) (.seq (.region 33 [q 2 (.asg 0 (.const (.bool false)) 4)] false) .ret) .skip))) .skip)) (.seq (.seq (.region 34 [q 214 (.mov (t 7)), q 215 (.bin .neq 2 (t 214) (.const (.int .i64 0)))] false) (.cond (t 215) (.seq (.region 35 [q 216 (.load 25 (t 6)), q 217 (.build 25 []), q 218 (.bin .eql 25 (t 216) (t 217)), q 2 (.asg 0 (t 218) 4)] false) .ret) .skip)) (.seq (.region 36 [q 220 (.mov (t 3)), q 221 (.mov (t 5)), q 222 (.call 0 (.func 51) [(t 220), (t 221)]), q 219 (.mov (t 222)), q 223 (.extract (t 219) 0), q 224 (.extract (t 219) 1), q 38 (.asg 0 (t 223) 2), q 39 (.asg 0 (t 224) 2)] false) (.seq (.seq (.region 37 [q 225 (.mov (t 39)), q 226 (.bin .neq 2 (t 225) (.const (.int .i64 0))), q 227 (.mov (t 226)), ⟨some 228, .mov (t 38), some (227, false), []⟩, ⟨some 229, .mov (t 4), some (227, false), []⟩, ⟨some 230, .mov (t 3), some (227, false), []⟩, ⟨some 231, .bin .sub 2 (t 230) (.const (.int .i64 1)), some (227, false), []⟩, ⟨some 232, .bin .mul 2 (t 229) (t 231), some (227, false), []⟩, ⟨some 233, .bin .lss 2 (t 228) (t 232), some (227, false), []⟩, ⟨some 234, .mov (t 233), some (227, false), []⟩, ⟨some 235, .load 25 (t 6), some (234, true), []⟩, ⟨some 236, .build 25 [], some (234, true), []⟩, ⟨some 237, .bin .neq 25 (t 235) (t 236), some (234, true), []⟩, ⟨some 238, .pick (t 234) (t 237) (.const (.bool false)), some (227, false), []⟩, q 239 (.pick (t 227) (.const (.bool true)) (t 238))] false) (.cond (t 239) (.seq (.region 38 [q 2 (.asg 0 (.const (.bool false)) 4)] false) .ret) .skip)) (.seq (.seq (.region 39 [q 240 (.mov (t 3)), q 241 (.mov (t 5)), q 242 (.bin .mul 2 (t 240) (t 241)), q 243 (.bin .gtr 2 (t 242) (.const (.int .i64 40)))] false) (.cond (t 243) (.seq (.region 40 [q 2 (.asg 0 (.const (.bool true)) 4)] false) .ret) .skip)) (.seq (.region 41 [q 245 (.mov (t 3)), q 246 (.load 25 (t 6)), q 247 (.mov (t 3)), q 248 (.call 0 (.func 40) [(t 245), (t 246), (t 247)]), q 244 (.mov (t 248)), q 249 (.extract (t 244) 0), q 250 (.extract (t 244) 1), q 40 (.alloc 25), ⟨none, .store 25 (t 40) (t 249), none, []⟩, q 41 (.asg 0 (t 250) 2)] false) (.seq (.region 42 [q 252 (.mov (t 3)), q 253 (.mov (t 4)), q 254 (.mov (t 3)), q 255 (.mov (t 5)), q 256 (.bin .mul 2 (t 254) (t 255)), q 257 (.call 0 (.func 48) [(t 252), (t 253), (t 256)]), q 251 (.mov (t 257)), q 258 (.extract (t 251) 0), q 259 (.extract (t 251) 1), q 42 (.alloc 25), ⟨none, .store 25 (t 42) (t 258), none, []⟩, q 43 (.asg 0 (t 259) 2)] false) (.seq (.region 43 [q 260 (.mov (t 41)), q 261 (.bin .neq 2 (t 260) (.const (.int .i64 0))), q 262 (.mov (t 261)), ⟨some 263, .mov (t 43), some (262, false), []⟩, ⟨some 264, .bin .neq 2 (t 263) (.const (.int .i64 0)), some (262, false), []⟩, q 265 (.pick (t 262) (.const (.bool true)) (t 264)), q 266 (.mov (t 265)), ⟨some 267, .load 25 (t 40), some (266, false), []⟩, ⟨some 268, .load 25 (t 42), some (266, false), []⟩, ⟨some 269, .bin .eql 25 (t 267) (t 268), some (266, false), []⟩, q 270 (.pick (t 266) (.const (.bool true)) (t 269)), q 2 (.asg 0 (t 270) 4)] false) .ret))))))))))))))))))))))))))
def laws_FnPowerSums_L : Live := [(0, [0]), (1, [0]), (2, []), (3, [0]), (4, [0, 3, 4, 5]), (5, [0, 3, 4, 5, 6, 7]), (6, [0, 3, 4, 5, 6, 7, 8, 9]), (7, []), (8, [0, 3, 4, 5, 6, 7]), (9, [0, 3, 4, 5, 6, 7, 10, 11]), (10, [0, 3, 4, 5, 6, 7, 10, 11, 12, 13]), (11, [0, 3, 4, 5, 6, 7, 12, 13, 14, 15]), (12, []), (13, [0, 3, 4, 5, 6, 7]), (14, [0, 3, 4, 5, 6, 7, 16, 17]), (15, [0, 3, 4, 5, 6, 7, 16, 17, 18, 19]), (16, [0, 3, 4, 5, 6, 7, 16, 17, 18, 19, 20, 21]), (17, []), (18, [0, 3, 4, 5, 6, 7, 16, 17, 18, 19]), (19, [0, 3, 4, 5, 6, 7, 16, 17, 18, 19, 22, 23, 24, 25]), (20, [0, 3, 4, 5, 6, 7, 16, 17, 18, 19, 22, 23, 24, 25, 26, 27]), (21, [0, 3, 4, 5, 6, 7, 16, 17, 18, 19, 26, 27, 28, 29]), (22, []), (23, [0, 3, 4, 5, 6, 7, 16, 17, 18, 19]), (24, [3, 4, 5, 6, 7, 16, 17, 18, 19, 30, 31]), (25, [3, 4, 5, 6, 7, 16, 17, 18, 19, 30, 31, 32, 33]), (26, [3, 4, 5, 6, 7, 16, 17, 18, 19, 30, 31, 32, 33, 34, 35]), (27, []), (28, [3, 4, 5, 6, 7, 16, 17, 18, 19, 30, 31, 32, 33]), (29, []), (30, [3, 4, 5, 6, 7, 30, 31, 32, 33]), (31, [3, 4, 5, 6, 7, 30, 31, 32]), (32, [3, 4, 5, 6, 7, 36, 37]), (33, []), (34, [3, 4, 5, 6, 7]), (35, [6]), (36, [3, 4, 5, 6]), (37, [3, 4, 5, 6, 38, 39]), (38, []), (39, [3, 4, 5, 6]), (40, []), (41, [3, 4, 5, 6]), (42, [3, 4, 5, 40, 41]), (43, [40, 41, 42, 43]), (100045, [0, 45]), (100073, [0, 3, 4, 5, 6, 7, 73]), (100098, [0, 3, 4, 5, 6, 7, 98]), (100123, [0, 3, 4, 5, 6, 7, 16, 17, 18, 19, 123]), (100154, [0, 3, 4, 5, 6, 7, 16, 17, 18, 19, 154]), (100179, [3, 4, 5, 6, 7, 16, 17, 18, 19, 30, 31, 32, 33, 179]), (100197, [3, 4, 5, 6, 7, 30, 31, 32, 33, 197]), (100199, [3, 4, 5, 6, 7, 30, 31, 32, 199]), (100213, [3, 4, 5, 6, 7, 213]), (100215, [3, 4, 5, 6, 215]), (100239, [3, 4, 5, 6, 239]), (100243, [3, 4, 5, 6, 243])]
noncomputable def laws_FnPowerSums (a0 : (List Int)) : Option Bool :=
  (Option.bind (laws_big a0) fun r1 => (if r1 then (some true) else (Option.bind (spec_DrawPowerSum a0) fun r4 => (Option.bind (impl_PowerSum r4.1 r4.2.1 r4.2.2) fun r6 => (Option.bind (spec_PowerSum r4.1 r4.2.1 r4.2.2) fun r9 => (Option.bind (α := Bool) ((if (r6.2 != r9.2) then (some true) else (some ((!decide (r6.1 = r9.1)))))) fun x15 => (if x15 then (some false) else (Option.bind (spec_DrawDigitSum a0) fun r23 => (Option.bind (impl_DigitSum r23.1 r23.2) fun r25 => (Option.bind (spec_DigitSum r23.1 r23.2) fun r27 => (Option.bind (α := Bool) ((if (r25.2 != r27.2) then (some true) else (some (r25.1 != r27.1)))) fun x30 => (if x30 then (some false) else (Option.bind (spec_DrawZetaAt a0) fun r36 => (Option.bind (impl_ZetaAt r36.1 r36.2) fun r38 => (Option.bind (spec_ZetaAt r36.1 r36.2) fun r41 => (Option.bind (α := Bool) ((if (r38.2 != r41.2) then (some true) else (some ((!decide (r38.1 = r41.1)))))) fun x47 => (if x47 then (some false) else (Option.bind (spec_DrawNestedSum a0) fun r55 => (Option.bind (impl_NestedSum r55.1 r55.2.1 r55.2.2.1 r55.2.2.2) fun r57 => (Option.bind (spec_NestedSum r55.1 r55.2.1 r55.2.2.1 r55.2.2.2) fun r60 => (Option.bind (α := Bool) ((if (r57.2 != r60.2) then (some true) else (some ((!decide (r57.1 = r60.1)))))) fun x66 => (if x66 then (some false) else (Option.bind (spec_DrawFirstVanishing a0) fun r74 => (Option.bind (impl_FirstVanishing r74.1 r74.2) fun r76 => (Option.bind (spec_FirstVanishing r74.1 r74.2) fun r78 => (Option.bind (α := Bool) ((if (r76.2 != r78.2) then (some true) else (some (r76.1 != r78.1)))) fun x81 => (if x81 then (some false) else (Option.bind (α := Bool) ((if (r38.2 == 0) then (if (decide (r36.2 > 0)) then (ifp ((IntKind.i64.wrap (r36.1 - 1)) ≠ 0) ((if ((Int.tmod r36.2 (IntKind.i64.wrap (r36.1 - 1))) == 0) then (some ((!decide (r38.1 = ((vrep 64 (0 : Int))))))) else (some false)))) else (some false)) else (some false))) fun x92 => (if x92 then (some false) else (Option.bind (α := (Unit ⊕ Bool)) ((if (r76.2 == 0) then (Option.bind (impl_PowerSum r74.1 r76.1 r74.2) fun r119 => (Option.bind (α := Bool) ((if (r119.2 != 0) then (some true) else (some ((!decide (r119.1 = ((vrep 64 (0 : Int))))))))) fun x124 => (if x124 then (some (.inr false)) else (some ((.inl ())))))) else (some ((.inl ()))))) fun z => match z with | .inl _ => (if (r6.2 != 0) then (some ((decide (r6.1 = ((vrep 64 (0 : Int))))))) else (Option.bind (impl_DigitSum r4.1 r4.2.2) fun r132 => (Option.bind (α := Bool) ((if (r132.2 != 0) then (some true) else (letp ((decide (r132.1 < (IntKind.i64.wrap (r4.2.1 * (IntKind.i64.wrap (r4.1 - 1))))))) fun x144 => (if x144 then (some ((!decide (r6.1 = ((vrep 64 (0 : Int))))))) else (some false))))) fun x139 => (if x139 then (some false) else (if (decide ((IntKind.i64.wrap (r4.1 * r4.2.2)) > 40)) then (some true) else (Option.bind (impl_PowerOf r4.1 r6.1 r4.1) fun r151 => (Option.bind (impl_PowerSum r4.1 r4.2.1 (IntKind.i64.wrap (r4.1 * r4.2.2))) fun r154 => (if (r151.2 != 0) then (some true) else (if (r154.2 != 0) then (some true) else (some ((decide (r151.1 = r154.1))))))))))))) | .inr r162 => (some r162)))))))))))))))))))))))))))))))
theorem laws_FnPowerSums_ok (a0 : (List Int)) (r : Bool) (h : laws_FnPowerSums a0 = some r) : Den Try.prog 7 [(eSu8 a0)] { r := (.bool r) } := by
  refine den_of (rs := [(.bool r)]) (ac := laws_FnPowerSums_c) (L := laws_FnPowerSums_L) (n := 271) (m := []) (c := Try.f7.body.getD .skip) good Try.func7 (by kernel_rfl) (by kernel_rfl) Try.ntmps7 rfl rfl (by kernel_rfl) rfl rfl ?_
  refine a_st (σ' := ⟨[(0, (eSu8 a0))], []⟩) (by kernel_rfl) ?_
  unfold laws_FnPowerSums_c
  refine sr (vp (.bool false) rfl (nx ⟨[(0, (eSu8 a0))], []⟩ (by kernel_rfl) (a_seq (sr (vp (eSu8 a0) rfl ?_)))))
  obtain ⟨r1, hr2, h⟩ := bind_some h
  refine a_call (args := [(eSu8 a0)]) (u := []) (r := (.bool r1)) rfl rfl (laws_big_ok a0 r1 hr2) rfl (nx ⟨[(0, (eSu8 a0)), (45, (.bool r1))], []⟩ (by kernel_rfl) ?_)
  cases hb3 : r1
  · have h := ite_f hb3 h
    refine a_cond_f rfl (a_skip (a_next (σ' := ⟨[(0, (eSu8 a0))], []⟩) (by kernel_rfl) (sr (vp (eSu8 a0) rfl ?_))))
    obtain ⟨r4, hr5, h⟩ := bind_some h
    refine a_call (args := [(eSu8 a0)]) (u := []) (r := (.tuple [(i6 r4.1), (i6 r4.2.1), (i6 r4.2.2)])) rfl rfl (spec_DrawPowerSum_ok a0 r4 hr5) rfl (vp (.tuple [(i6 r4.1), (i6 r4.2.1), (i6 r4.2.2)]) rfl (vb (i6 r4.1) rfl rfl (vb (i6 r4.2.1) rfl rfl (vb (i6 r4.2.2) rfl rfl (vp (i6 r4.1) rfl (vp (i6 r4.2.1) rfl (vp (i6 r4.2.2) rfl (nx ⟨[(0, (eSu8 a0)), (3, (i6 r4.1)), (4, (i6 r4.2.1)), (5, (i6 r4.2.2))], []⟩ (by kernel_rfl) (sr ?_)))))))))
    refine vp (i6 r4.1) rfl (vp (i6 r4.2.1) rfl (vp (i6 r4.2.2) rfl ?_))
    obtain ⟨r6, hr7, h⟩ := bind_some h
    refine a_call (args := [(i6 r4.1), (i6 r4.2.1), (i6 r4.2.2)]) (u := []) (r := (.tuple [(eA64u8 r6.1), (i6 r6.2)])) rfl rfl (impl_PowerSum_ok r4.1 r4.2.1 r4.2.2 r6 hr7) rfl (vp (.tuple [(eA64u8 r6.1), (i6 r6.2)]) rfl (vb (eA64u8 r6.1) rfl rfl (vb (i6 r6.2) rfl rfl (vo 1600 (eA64u8 ((vrep 64 (0 : Int)))) rfl rfl (vs (eA64u8 r6.1) rfl rfl (fun _ => rfl) rfl rfl rfl rfl rfl rfl (vp (i6 r6.2) rfl (nx ⟨[(0, (eSu8 a0)), (3, (i6 r4.1)), (4, (i6 r4.2.1)), (5, (i6 r4.2.2)), (6, (ow 6)), (7, (i6 r6.2))], [(6, (bk (eA64u8 r6.1)))]⟩ (by kernel_rfl) (a_seq (sr ?_)))))))))
    refine vp (i6 r4.1) rfl (vp (i6 r4.2.1) rfl (vp (i6 r4.2.2) rfl ?_))
    obtain ⟨r9, hr10, h⟩ := bind_some h
    refine a_call (args := [(i6 r4.1), (i6 r4.2.1), (i6 r4.2.2)]) (u := []) (r := (.tuple [(eA64u8 r9.1), (i6 r9.2)])) rfl rfl (spec_PowerSum_ok r4.1 r4.2.1 r4.2.2 r9 hr10) rfl (vp (.tuple [(eA64u8 r9.1), (i6 r9.2)]) rfl (vb (eA64u8 r9.1) rfl rfl (vb (i6 r9.2) rfl rfl (vo 1800 (eA64u8 ((vrep 64 (0 : Int)))) rfl rfl (vs (eA64u8 r9.1) rfl rfl (fun _ => rfl) rfl rfl rfl rfl rfl rfl (vp (i6 r9.2) rfl (nx ⟨[(0, (eSu8 a0)), (3, (i6 r4.1)), (4, (i6 r4.2.1)), (5, (i6 r4.2.2)), (6, (ow 6)), (7, (i6 r6.2)), (8, (ow 8)), (9, (i6 r9.2))], [(6, (bk (eA64u8 r6.1))), (8, (bk (eA64u8 r9.1)))]⟩ (by kernel_rfl) ?_)))))))
    obtain ⟨y16, hy17, hk18⟩ := bind_some h
    clear h
    refine a_join (emb := fun (s : Bool) => ⟨[(0, (eSu8 a0)), (3, (i6 r4.1)), (4, (i6 r4.2.1)), (5, (i6 r4.2.2)), (6, (ow 6)), (7, (i6 r6.2)), (73, (.bool s))], [(6, (bk (eA64u8 r6.1)))]⟩) (pre := fun s => s = y16) ?_ ?_
    · rintro x15 rfl
      have h := hk18
      refine a_st (σ' := ⟨[(0, (eSu8 a0)), (3, (i6 r4.1)), (4, (i6 r4.2.1)), (5, (i6 r4.2.2)), (6, (ow 6)), (7, (i6 r6.2)), (73, (.bool x15))], [(6, (bk (eA64u8 r6.1)))]⟩) (by kernel_rfl) ?_
      cases hb22 : x15
      · have h := ite_f hb22 h
        refine a_cond_f rfl (a_skip (a_next (σ' := ⟨[(0, (eSu8 a0)), (3, (i6 r4.1)), (4, (i6 r4.2.1)), (5, (i6 r4.2.2)), (6, (ow 6)), (7, (i6 r6.2))], [(6, (bk (eA64u8 r6.1)))]⟩) (by kernel_rfl) (sr (vp (eSu8 a0) rfl ?_))))
        obtain ⟨r23, hr24, h⟩ := bind_some h
        refine a_call (args := [(eSu8 a0)]) (u := []) (r := (.tuple [(i6 r23.1), (i6 r23.2)])) rfl rfl (spec_DrawDigitSum_ok a0 r23 hr24) rfl (vp (.tuple [(i6 r23.1), (i6 r23.2)]) rfl (vb (i6 r23.1) rfl rfl (vb (i6 r23.2) rfl rfl (vp (i6 r23.1) rfl (vp (i6 r23.2) rfl (nx ⟨[(0, (eSu8 a0)), (3, (i6 r4.1)), (4, (i6 r4.2.1)), (5, (i6 r4.2.2)), (6, (ow 6)), (7, (i6 r6.2)), (10, (i6 r23.1)), (11, (i6 r23.2))], [(6, (bk (eA64u8 r6.1)))]⟩ (by kernel_rfl) (sr (vp (i6 r23.1) rfl (vp (i6 r23.2) rfl ?_)))))))))
        obtain ⟨r25, hr26, h⟩ := bind_some h
        refine a_call (args := [(i6 r23.1), (i6 r23.2)]) (u := []) (r := (.tuple [(i6 r25.1), (i6 r25.2)])) rfl rfl (impl_DigitSum_ok r23.1 r23.2 r25 hr26) rfl (vp (.tuple [(i6 r25.1), (i6 r25.2)]) rfl (vb (i6 r25.1) rfl rfl (vb (i6 r25.2) rfl rfl (vp (i6 r25.1) rfl (vp (i6 r25.2) rfl (nx ⟨[(0, (eSu8 a0)), (3, (i6 r4.1)), (4, (i6 r4.2.1)), (5, (i6 r4.2.2)), (6, (ow 6)), (7, (i6 r6.2)), (10, (i6 r23.1)), (11, (i6 r23.2)), (12, (i6 r25.1)), (13, (i6 r25.2))], [(6, (bk (eA64u8 r6.1)))]⟩ (by kernel_rfl) (a_seq (sr (vp (i6 r23.1) rfl ?_)))))))))
        refine vp (i6 r23.2) rfl ?_
        obtain ⟨r27, hr28, h⟩ := bind_some h
        refine a_call (args := [(i6 r23.1), (i6 r23.2)]) (u := []) (r := (.tuple [(i6 r27.1), (i6 r27.2)])) rfl rfl (spec_DigitSum_ok r23.1 r23.2 r27 hr28) rfl (vp (.tuple [(i6 r27.1), (i6 r27.2)]) rfl (vb (i6 r27.1) rfl rfl (vb (i6 r27.2) rfl rfl (vp (i6 r27.1) rfl (vp (i6 r27.2) rfl (nx ⟨[(0, (eSu8 a0)), (3, (i6 r4.1)), (4, (i6 r4.2.1)), (5, (i6 r4.2.2)), (6, (ow 6)), (7, (i6 r6.2)), (12, (i6 r25.1)), (13, (i6 r25.2)), (14, (i6 r27.1)), (15, (i6 r27.2))], [(6, (bk (eA64u8 r6.1)))]⟩ (by kernel_rfl) ?_))))))
        obtain ⟨y31, hy32, hk33⟩ := bind_some h
        clear h
        refine a_join (emb := fun (s : Bool) => ⟨[(0, (eSu8 a0)), (3, (i6 r4.1)), (4, (i6 r4.2.1)), (5, (i6 r4.2.2)), (6, (ow 6)), (7, (i6 r6.2)), (98, (.bool s))], [(6, (bk (eA64u8 r6.1)))]⟩) (pre := fun s => s = y31) ?_ ?_
        · rintro x30 rfl
          have h := hk33
          refine a_st (σ' := ⟨[(0, (eSu8 a0)), (3, (i6 r4.1)), (4, (i6 r4.2.1)), (5, (i6 r4.2.2)), (6, (ow 6)), (7, (i6 r6.2)), (98, (.bool x30))], [(6, (bk (eA64u8 r6.1)))]⟩) (by kernel_rfl) ?_
          cases hb35 : x30
          · have h := ite_f hb35 h
            refine a_cond_f rfl (a_skip (a_next (σ' := ⟨[(0, (eSu8 a0)), (3, (i6 r4.1)), (4, (i6 r4.2.1)), (5, (i6 r4.2.2)), (6, (ow 6)), (7, (i6 r6.2))], [(6, (bk (eA64u8 r6.1)))]⟩) (by kernel_rfl) (sr (vp (eSu8 a0) rfl ?_))))
            obtain ⟨r36, hr37, h⟩ := bind_some h
            refine a_call (args := [(eSu8 a0)]) (u := []) (r := (.tuple [(i6 r36.1), (i6 r36.2)])) rfl rfl (spec_DrawZetaAt_ok a0 r36 hr37) rfl (vp (.tuple [(i6 r36.1), (i6 r36.2)]) rfl (vb (i6 r36.1) rfl rfl (vb (i6 r36.2) rfl rfl (vp (i6 r36.1) rfl (vp (i6 r36.2) rfl (nx ⟨[(0, (eSu8 a0)), (3, (i6 r4.1)), (4, (i6 r4.2.1)), (5, (i6 r4.2.2)), (6, (ow 6)), (7, (i6 r6.2)), (16, (i6 r36.1)), (17, (i6 r36.2))], [(6, (bk (eA64u8 r6.1)))]⟩ (by kernel_rfl) (sr (vp (i6 r36.1) rfl (vp (i6 r36.2) rfl ?_)))))))))
            obtain ⟨r38, hr39, h⟩ := bind_some h
            refine a_call (args := [(i6 r36.1), (i6 r36.2)]) (u := []) (r := (.tuple [(eA64u8 r38.1), (i6 r38.2)])) rfl rfl (impl_ZetaAt_ok r36.1 r36.2 r38 hr39) rfl (vp (.tuple [(eA64u8 r38.1), (i6 r38.2)]) rfl (vb (eA64u8 r38.1) rfl rfl (vb (i6 r38.2) rfl rfl (vo 2800 (eA64u8 ((vrep 64 (0 : Int)))) rfl rfl (vs (eA64u8 r38.1) rfl rfl (fun _ => rfl) rfl rfl rfl rfl rfl rfl (vp (i6 r38.2) rfl (nx ⟨[(0, (eSu8 a0)), (3, (i6 r4.1)), (4, (i6 r4.2.1)), (5, (i6 r4.2.2)), (6, (ow 6)), (7, (i6 r6.2)), (16, (i6 r36.1)), (17, (i6 r36.2)), (18, (ow 18)), (19, (i6 r38.2))], [(6, (bk (eA64u8 r6.1))), (18, (bk (eA64u8 r38.1)))]⟩ (by kernel_rfl) (a_seq (sr ?_)))))))))
            refine vp (i6 r36.1) rfl (vp (i6 r36.2) rfl ?_)
            obtain ⟨r41, hr42, h⟩ := bind_some h
            refine a_call (args := [(i6 r36.1), (i6 r36.2)]) (u := []) (r := (.tuple [(eA64u8 r41.1), (i6 r41.2)])) rfl rfl (spec_ZetaAt_ok r36.1 r36.2 r41 hr42) rfl (vp (.tuple [(eA64u8 r41.1), (i6 r41.2)]) rfl (vb (eA64u8 r41.1) rfl rfl (vb (i6 r41.2) rfl rfl (vo 3000 (eA64u8 ((vrep 64 (0 : Int)))) rfl rfl (vs (eA64u8 r41.1) rfl rfl (fun _ => rfl) rfl rfl rfl rfl rfl rfl (vp (i6 r41.2) rfl (nx ⟨[(0, (eSu8 a0)), (3, (i6 r4.1)), (4, (i6 r4.2.1)), (5, (i6 r4.2.2)), (6, (ow 6)), (7, (i6 r6.2)), (16, (i6 r36.1)), (17, (i6 r36.2)), (18, (ow 18)), (19, (i6 r38.2)), (20, (ow 20)), (21, (i6 r41.2))], [(6, (bk (eA64u8 r6.1))), (18, (bk (eA64u8 r38.1))), (20, (bk (eA64u8 r41.1)))]⟩ (by kernel_rfl) ?_)))))))
            obtain ⟨y48, hy49, hk50⟩ := bind_some h
            clear h
            refine a_join (emb := fun (s : Bool) => ⟨[(0, (eSu8 a0)), (3, (i6 r4.1)), (4, (i6 r4.2.1)), (5, (i6 r4.2.2)), (6, (ow 6)), (7, (i6 r6.2)), (16, (i6 r36.1)), (17, (i6 r36.2)), (18, (ow 18)), (19, (i6 r38.2)), (123, (.bool s))], [(6, (bk (eA64u8 r6.1))), (18, (bk (eA64u8 r38.1)))]⟩) (pre := fun s => s = y48) ?_ ?_
            · rintro x47 rfl
              have h := hk50
              refine a_st (σ' := ⟨[(0, (eSu8 a0)), (3, (i6 r4.1)), (4, (i6 r4.2.1)), (5, (i6 r4.2.2)), (6, (ow 6)), (7, (i6 r6.2)), (16, (i6 r36.1)), (17, (i6 r36.2)), (18, (ow 18)), (19, (i6 r38.2)), (123, (.bool x47))], [(6, (bk (eA64u8 r6.1))), (18, (bk (eA64u8 r38.1)))]⟩) (by kernel_rfl) ?_
              cases hb54 : x47
              · have h := ite_f hb54 h
                refine a_cond_f rfl (a_skip (a_next (σ' := ⟨[(0, (eSu8 a0)), (3, (i6 r4.1)), (4, (i6 r4.2.1)), (5, (i6 r4.2.2)), (6, (ow 6)), (7, (i6 r6.2)), (16, (i6 r36.1)), (17, (i6 r36.2)), (18, (ow 18)), (19, (i6 r38.2))], [(6, (bk (eA64u8 r6.1))), (18, (bk (eA64u8 r38.1)))]⟩) (by kernel_rfl) (sr (vp (eSu8 a0) rfl ?_))))
                obtain ⟨r55, hr56, h⟩ := bind_some h
                refine a_call (args := [(eSu8 a0)]) (u := []) (r := (.tuple [(i6 r55.1), (i6 r55.2.1), (i6 r55.2.2.1), (i6 r55.2.2.2)])) rfl rfl (spec_DrawNestedSum_ok a0 r55 hr56) rfl (vp (.tuple [(i6 r55.1), (i6 r55.2.1), (i6 r55.2.2.1), (i6 r55.2.2.2)]) rfl (vb (i6 r55.1) rfl rfl (vb (i6 r55.2.1) rfl rfl (vb (i6 r55.2.2.1) rfl rfl (vb (i6 r55.2.2.2) rfl rfl (vp (i6 r55.1) rfl (vp (i6 r55.2.1) rfl (vp (i6 r55.2.2.1) rfl (vp (i6 r55.2.2.2) rfl ?_)))))))))
                refine nx ⟨[(0, (eSu8 a0)), (3, (i6 r4.1)), (4, (i6 r4.2.1)), (5, (i6 r4.2.2)), (6, (ow 6)), (7, (i6 r6.2)), (16, (i6 r36.1)), (17, (i6 r36.2)), (18, (ow 18)), (19, (i6 r38.2)), (22, (i6 r55.1)), (23, (i6 r55.2.1)), (24, (i6 r55.2.2.1)), (25, (i6 r55.2.2.2))], [(6, (bk (eA64u8 r6.1))), (18, (bk (eA64u8 r38.1)))]⟩ (by kernel_rfl) (sr (vp (i6 r55.1) rfl (vp (i6 r55.2.1) rfl (vp (i6 r55.2.2.1) rfl (vp (i6 r55.2.2.2) rfl ?_)))))
                obtain ⟨r57, hr58, h⟩ := bind_some h
                refine a_call (args := [(i6 r55.1), (i6 r55.2.1), (i6 r55.2.2.1), (i6 r55.2.2.2)]) (u := []) (r := (.tuple [(eA64u8 r57.1), (i6 r57.2)])) rfl rfl (impl_NestedSum_ok r55.1 r55.2.1 r55.2.2.1 r55.2.2.2 r57 hr58) rfl (vp (.tuple [(eA64u8 r57.1), (i6 r57.2)]) rfl (vb (eA64u8 r57.1) rfl rfl (vb (i6 r57.2) rfl rfl (vo 3600 (eA64u8 ((vrep 64 (0 : Int)))) rfl rfl (vs (eA64u8 r57.1) rfl rfl (fun _ => rfl) rfl rfl rfl rfl rfl rfl (vp (i6 r57.2) rfl (nx ⟨[(0, (eSu8 a0)), (3, (i6 r4.1)), (4, (i6 r4.2.1)), (5, (i6 r4.2.2)), (6, (ow 6)), (7, (i6 r6.2)), (16, (i6 r36.1)), (17, (i6 r36.2)), (18, (ow 18)), (19, (i6 r38.2)), (22, (i6 r55.1)), (23, (i6 r55.2.1)), (24, (i6 r55.2.2.1)), (25, (i6 r55.2.2.2)), (26, (ow 26)), (27, (i6 r57.2))], [(6, (bk (eA64u8 r6.1))), (18, (bk (eA64u8 r38.1))), (26, (bk (eA64u8 r57.1)))]⟩ (by kernel_rfl) (a_seq (sr ?_)))))))))
                refine vp (i6 r55.1) rfl (vp (i6 r55.2.1) rfl (vp (i6 r55.2.2.1) rfl (vp (i6 r55.2.2.2) rfl ?_)))
                obtain ⟨r60, hr61, h⟩ := bind_some h
                refine a_call (args := [(i6 r55.1), (i6 r55.2.1), (i6 r55.2.2.1), (i6 r55.2.2.2)]) (u := []) (r := (.tuple [(eA64u8 r60.1), (i6 r60.2)])) rfl rfl (spec_NestedSum_ok r55.1 r55.2.1 r55.2.2.1 r55.2.2.2 r60 hr61) rfl (vp (.tuple [(eA64u8 r60.1), (i6 r60.2)]) rfl (vb (eA64u8 r60.1) rfl rfl (vb (i6 r60.2) rfl rfl (vo 3800 (eA64u8 ((vrep 64 (0 : Int)))) rfl rfl (vs (eA64u8 r60.1) rfl rfl (fun _ => rfl) rfl rfl rfl rfl rfl rfl (vp (i6 r60.2) rfl (nx ⟨[(0, (eSu8 a0)), (3, (i6 r4.1)), (4, (i6 r4.2.1)), (5, (i6 r4.2.2)), (6, (ow 6)), (7, (i6 r6.2)), (16, (i6 r36.1)), (17, (i6 r36.2)), (18, (ow 18)), (19, (i6 r38.2)), (26, (ow 26)), (27, (i6 r57.2)), (28, (ow 28)), (29, (i6 r60.2))], [(6, (bk (eA64u8 r6.1))), (18, (bk (eA64u8 r38.1))), (26, (bk (eA64u8 r57.1))), (28, (bk (eA64u8 r60.1)))]⟩ (by kernel_rfl) ?_)))))))
                obtain ⟨y67, hy68, hk69⟩ := bind_some h
                clear h
                refine a_join (emb := fun (s : Bool) => ⟨[(0, (eSu8 a0)), (3, (i6 r4.1)), (4, (i6 r4.2.1)), (5, (i6 r4.2.2)), (6, (ow 6)), (7, (i6 r6.2)), (16, (i6 r36.1)), (17, (i6 r36.2)), (18, (ow 18)), (19, (i6 r38.2)), (154, (.bool s))], [(6, (bk (eA64u8 r6.1))), (18, (bk (eA64u8 r38.1)))]⟩) (pre := fun s => s = y67) ?_ ?_
                · rintro x66 rfl
                  have h := hk69
                  refine a_st (σ' := ⟨[(0, (eSu8 a0)), (3, (i6 r4.1)), (4, (i6 r4.2.1)), (5, (i6 r4.2.2)), (6, (ow 6)), (7, (i6 r6.2)), (16, (i6 r36.1)), (17, (i6 r36.2)), (18, (ow 18)), (19, (i6 r38.2)), (154, (.bool x66))], [(6, (bk (eA64u8 r6.1))), (18, (bk (eA64u8 r38.1)))]⟩) (by kernel_rfl) ?_
                  cases hb73 : x66
                  · have h := ite_f hb73 h
                    refine a_cond_f rfl (a_skip (a_next (σ' := ⟨[(0, (eSu8 a0)), (3, (i6 r4.1)), (4, (i6 r4.2.1)), (5, (i6 r4.2.2)), (6, (ow 6)), (7, (i6 r6.2)), (16, (i6 r36.1)), (17, (i6 r36.2)), (18, (ow 18)), (19, (i6 r38.2))], [(6, (bk (eA64u8 r6.1))), (18, (bk (eA64u8 r38.1)))]⟩) (by kernel_rfl) (sr (vp (eSu8 a0) rfl ?_))))
                    obtain ⟨r74, hr75, h⟩ := bind_some h
                    refine a_call (args := [(eSu8 a0)]) (u := []) (r := (.tuple [(i6 r74.1), (i6 r74.2)])) rfl rfl (spec_DrawFirstVanishing_ok a0 r74 hr75) rfl (vp (.tuple [(i6 r74.1), (i6 r74.2)]) rfl (vb (i6 r74.1) rfl rfl (vb (i6 r74.2) rfl rfl (vp (i6 r74.1) rfl (vp (i6 r74.2) rfl (nx ⟨[(3, (i6 r4.1)), (4, (i6 r4.2.1)), (5, (i6 r4.2.2)), (6, (ow 6)), (7, (i6 r6.2)), (16, (i6 r36.1)), (17, (i6 r36.2)), (18, (ow 18)), (19, (i6 r38.2)), (30, (i6 r74.1)), (31, (i6 r74.2))], [(6, (bk (eA64u8 r6.1))), (18, (bk (eA64u8 r38.1)))]⟩ (by kernel_rfl) (sr (vp (i6 r74.1) rfl (vp (i6 r74.2) rfl ?_)))))))))
                    obtain ⟨r76, hr77, h⟩ := bind_some h
                    refine a_call (args := [(i6 r74.1), (i6 r74.2)]) (u := []) (r := (.tuple [(i6 r76.1), (i6 r76.2)])) rfl rfl (impl_FirstVanishing_ok r74.1 r74.2 r76 hr77) rfl (vp (.tuple [(i6 r76.1), (i6 r76.2)]) rfl (vb (i6 r76.1) rfl rfl (vb (i6 r76.2) rfl rfl (vp (i6 r76.1) rfl (vp (i6 r76.2) rfl (nx ⟨[(3, (i6 r4.1)), (4, (i6 r4.2.1)), (5, (i6 r4.2.2)), (6, (ow 6)), (7, (i6 r6.2)), (16, (i6 r36.1)), (17, (i6 r36.2)), (18, (ow 18)), (19, (i6 r38.2)), (30, (i6 r74.1)), (31, (i6 r74.2)), (32, (i6 r76.1)), (33, (i6 r76.2))], [(6, (bk (eA64u8 r6.1))), (18, (bk (eA64u8 r38.1)))]⟩ (by kernel_rfl) (a_seq (sr (vp (i6 r74.1) rfl ?_)))))))))
                    refine vp (i6 r74.2) rfl ?_
                    obtain ⟨r78, hr79, h⟩ := bind_some h
                    refine a_call (args := [(i6 r74.1), (i6 r74.2)]) (u := []) (r := (.tuple [(i6 r78.1), (i6 r78.2)])) rfl rfl (spec_FirstVanishing_ok r74.1 r74.2 r78 hr79) rfl (vp (.tuple [(i6 r78.1), (i6 r78.2)]) rfl (vb (i6 r78.1) rfl rfl (vb (i6 r78.2) rfl rfl (vp (i6 r78.1) rfl (vp (i6 r78.2) rfl (nx ⟨[(3, (i6 r4.1)), (4, (i6 r4.2.1)), (5, (i6 r4.2.2)), (6, (ow 6)), (7, (i6 r6.2)), (16, (i6 r36.1)), (17, (i6 r36.2)), (18, (ow 18)), (19, (i6 r38.2)), (30, (i6 r74.1)), (31, (i6 r74.2)), (32, (i6 r76.1)), (33, (i6 r76.2)), (34, (i6 r78.1)), (35, (i6 r78.2))], [(6, (bk (eA64u8 r6.1))), (18, (bk (eA64u8 r38.1)))]⟩ (by kernel_rfl) ?_))))))
                    obtain ⟨y82, hy83, hk84⟩ := bind_some h
                    clear h
                    refine a_join (emb := fun (s : Bool) => ⟨[(3, (i6 r4.1)), (4, (i6 r4.2.1)), (5, (i6 r4.2.2)), (6, (ow 6)), (7, (i6 r6.2)), (16, (i6 r36.1)), (17, (i6 r36.2)), (18, (ow 18)), (19, (i6 r38.2)), (30, (i6 r74.1)), (31, (i6 r74.2)), (32, (i6 r76.1)), (33, (i6 r76.2)), (179, (.bool s))], [(6, (bk (eA64u8 r6.1))), (18, (bk (eA64u8 r38.1)))]⟩) (pre := fun s => s = y82) ?_ ?_
                    · rintro x81 rfl
                      have h := hk84
                      refine a_st (σ' := ⟨[(3, (i6 r4.1)), (4, (i6 r4.2.1)), (5, (i6 r4.2.2)), (6, (ow 6)), (7, (i6 r6.2)), (16, (i6 r36.1)), (17, (i6 r36.2)), (18, (ow 18)), (19, (i6 r38.2)), (30, (i6 r74.1)), (31, (i6 r74.2)), (32, (i6 r76.1)), (33, (i6 r76.2)), (179, (.bool x81))], [(6, (bk (eA64u8 r6.1))), (18, (bk (eA64u8 r38.1)))]⟩) (by kernel_rfl) ?_
                      cases hb86 : x81
                      · have h := ite_f hb86 h
                        refine a_cond_f rfl (a_skip (a_next (σ' := ⟨[(3, (i6 r4.1)), (4, (i6 r4.2.1)), (5, (i6 r4.2.2)), (6, (ow 6)), (7, (i6 r6.2)), (16, (i6 r36.1)), (17, (i6 r36.2)), (18, (ow 18)), (19, (i6 r38.2)), (30, (i6 r74.1)), (31, (i6 r74.2)), (32, (i6 r76.1)), (33, (i6 r76.2))], [(6, (bk (eA64u8 r6.1))), (18, (bk (eA64u8 r38.1)))]⟩) (by kernel_rfl) (a_seq ?_)))
                        obtain ⟨y93, hy94, hk95⟩ := bind_some h
                        clear h
                        refine a_join (emb := fun (s : Bool) => ⟨[(3, (i6 r4.1)), (4, (i6 r4.2.1)), (5, (i6 r4.2.2)), (6, (ow 6)), (7, (i6 r6.2)), (30, (i6 r74.1)), (31, (i6 r74.2)), (32, (i6 r76.1)), (33, (i6 r76.2)), (197, (.bool s))], [(6, (bk (eA64u8 r6.1)))]⟩) (pre := fun s => s = y93) ?_ ?_
                        · rintro x92 rfl
                          have h := hk95
                          refine a_st (σ' := ⟨[(3, (i6 r4.1)), (4, (i6 r4.2.1)), (5, (i6 r4.2.2)), (6, (ow 6)), (7, (i6 r6.2)), (30, (i6 r74.1)), (31, (i6 r74.2)), (32, (i6 r76.1)), (33, (i6 r76.2)), (197, (.bool x92))], [(6, (bk (eA64u8 r6.1)))]⟩) (by kernel_rfl) ?_
                          cases hb101 : x92
                          · have h := ite_f hb101 h
                            refine a_cond_f rfl (a_skip (a_next (σ' := ⟨[(3, (i6 r4.1)), (4, (i6 r4.2.1)), (5, (i6 r4.2.2)), (6, (ow 6)), (7, (i6 r6.2)), (30, (i6 r74.1)), (31, (i6 r74.2)), (32, (i6 r76.1)), (33, (i6 r76.2))], [(6, (bk (eA64u8 r6.1)))]⟩) (by kernel_rfl) ?_))
                            obtain ⟨y115, hy116, hk117⟩ := bind_some h
                            clear h
                            refine a_join (emb := fun (s : Unit) => ⟨[(3, (i6 r4.1)), (4, (i6 r4.2.1)), (5, (i6 r4.2.2)), (6, (ow 6)), (7, (i6 r6.2))], [(6, (bk (eA64u8 r6.1)))]⟩) (pre := fun s => (.inl s) = y115) ?_ ?_
                            · rintro _ rfl
                              have h := hk117
                              refine a_st (σ' := ⟨[(3, (i6 r4.1)), (4, (i6 r4.2.1)), (5, (i6 r4.2.2)), (6, (ow 6)), (7, (i6 r6.2))], [(6, (bk (eA64u8 r6.1)))]⟩) (by kernel_rfl) (a_seq (sr (vp (i6 r6.2) rfl (vp (.bool (r6.2 != 0)) rfl (nx ⟨[(3, (i6 r4.1)), (4, (i6 r4.2.1)), (5, (i6 r4.2.2)), (6, (ow 6)), (215, (.bool (r6.2 != 0)))], [(6, (bk (eA64u8 r6.1)))]⟩ (by kernel_rfl) ?_)))))
                              cases hb131 : (r6.2 != 0)
                              · have h := ite_f hb131 h
                                refine a_cond_f rfl (a_skip (a_next (σ' := ⟨[(3, (i6 r4.1)), (4, (i6 r4.2.1)), (5, (i6 r4.2.2)), (6, (ow 6))], [(6, (bk (eA64u8 r6.1)))]⟩) (by kernel_rfl) (sr (vp (i6 r4.1) rfl (vp (i6 r4.2.2) rfl ?_)))))
                                obtain ⟨r132, hr133, h⟩ := bind_some h
                                refine a_call (args := [(i6 r4.1), (i6 r4.2.2)]) (u := []) (r := (.tuple [(i6 r132.1), (i6 r132.2)])) rfl rfl (impl_DigitSum_ok r4.1 r4.2.2 r132 hr133) rfl (vp (.tuple [(i6 r132.1), (i6 r132.2)]) rfl (vb (i6 r132.1) rfl rfl (vb (i6 r132.2) rfl rfl (vp (i6 r132.1) rfl (vp (i6 r132.2) rfl (nx ⟨[(3, (i6 r4.1)), (4, (i6 r4.2.1)), (5, (i6 r4.2.2)), (6, (ow 6)), (38, (i6 r132.1)), (39, (i6 r132.2))], [(6, (bk (eA64u8 r6.1)))]⟩ (by kernel_rfl) (a_seq ?_)))))))
                                obtain ⟨y140, hy141, hk142⟩ := bind_some h
                                clear h
                                refine a_join (emb := fun (s : Bool) => ⟨[(3, (i6 r4.1)), (4, (i6 r4.2.1)), (5, (i6 r4.2.2)), (6, (ow 6)), (239, (.bool s))], [(6, (bk (eA64u8 r6.1)))]⟩) (pre := fun s => s = y140) ?_ ?_
                                · rintro x139 rfl
                                  have h := hk142
                                  refine a_st (σ' := ⟨[(3, (i6 r4.1)), (4, (i6 r4.2.1)), (5, (i6 r4.2.2)), (6, (ow 6)), (239, (.bool x139))], [(6, (bk (eA64u8 r6.1)))]⟩) (by kernel_rfl) ?_
                                  cases hb148 : x139
                                  · have h := ite_f hb148 h
                                    refine a_cond_f rfl (a_skip (a_next (σ' := ⟨[(3, (i6 r4.1)), (4, (i6 r4.2.1)), (5, (i6 r4.2.2)), (6, (ow 6))], [(6, (bk (eA64u8 r6.1)))]⟩) (by kernel_rfl) (a_seq (sr (vp (i6 r4.1) rfl (vp (i6 r4.2.2) rfl (vp (i6 (IntKind.i64.wrap (r4.1 * r4.2.2))) rfl (vp (.bool ((decide ((IntKind.i64.wrap (r4.1 * r4.2.2)) > 40)))) rfl (nx ⟨[(3, (i6 r4.1)), (4, (i6 r4.2.1)), (5, (i6 r4.2.2)), (6, (ow 6)), (243, (.bool ((decide ((IntKind.i64.wrap (r4.1 * r4.2.2)) > 40)))))], [(6, (bk (eA64u8 r6.1)))]⟩ (by kernel_rfl) ?_)))))))))
                                    cases hb149 : (decide ((IntKind.i64.wrap (r4.1 * r4.2.2)) > 40))
                                    · have h := ite_f hb149 h
                                      refine a_cond_f rfl (a_skip (a_next (σ' := ⟨[(3, (i6 r4.1)), (4, (i6 r4.2.1)), (5, (i6 r4.2.2)), (6, (ow 6))], [(6, (bk (eA64u8 r6.1)))]⟩) (by kernel_rfl) (sr (vp (i6 r4.1) rfl (vl (eA64u8 r6.1) rfl rfl rfl rfl rfl rfl (vp (i6 r4.1) rfl ?_))))))
                                      obtain ⟨r151, hr152, h⟩ := bind_some h
                                      refine a_call (args := [(i6 r4.1), (eA64u8 r6.1), (i6 r4.1)]) (u := []) (r := (.tuple [(eA64u8 r151.1), (i6 r151.2)])) rfl rfl (impl_PowerOf_ok r4.1 r6.1 r4.1 r151 hr152) rfl (vp (.tuple [(eA64u8 r151.1), (i6 r151.2)]) rfl (vb (eA64u8 r151.1) rfl rfl (vb (i6 r151.2) rfl rfl (vo 5000 (eA64u8 ((vrep 64 (0 : Int)))) rfl rfl (vs (eA64u8 r151.1) rfl rfl (fun _ => rfl) rfl rfl rfl rfl rfl rfl (vp (i6 r151.2) rfl (nx ⟨[(3, (i6 r4.1)), (4, (i6 r4.2.1)), (5, (i6 r4.2.2)), (40, (ow 40)), (41, (i6 r151.2))], [(40, (bk (eA64u8 r151.1)))]⟩ (by kernel_rfl) (sr (vp (i6 r4.1) rfl ?_)))))))))
                                      refine vp (i6 r4.2.1) rfl (vp (i6 r4.1) rfl (vp (i6 r4.2.2) rfl (vp (i6 (IntKind.i64.wrap (r4.1 * r4.2.2))) rfl ?_)))
                                      obtain ⟨r154, hr155, h⟩ := bind_some h
                                      refine a_call (args := [(i6 r4.1), (i6 r4.2.1), (i6 (IntKind.i64.wrap (r4.1 * r4.2.2)))]) (u := []) (r := (.tuple [(eA64u8 r154.1), (i6 r154.2)])) rfl rfl (impl_PowerSum_ok r4.1 r4.2.1 (IntKind.i64.wrap (r4.1 * r4.2.2)) r154 hr155) rfl (vp (.tuple [(eA64u8 r154.1), (i6 r154.2)]) rfl (vb (eA64u8 r154.1) rfl rfl (vb (i6 r154.2) rfl rfl (vo 5200 (eA64u8 ((vrep 64 (0 : Int)))) rfl rfl (vs (eA64u8 r154.1) rfl rfl (fun _ => rfl) rfl rfl rfl rfl rfl rfl (vp (i6 r154.2) rfl (nx ⟨[(40, (ow 40)), (41, (i6 r151.2)), (42, (ow 42)), (43, (i6 r154.2))], [(40, (bk (eA64u8 r151.1))), (42, (bk (eA64u8 r154.1)))]⟩ (by kernel_rfl) (sr (vp (i6 r151.2) rfl ?_)))))))))
                                      refine vp (.bool (r151.2 != 0)) rfl (vp (.bool (r151.2 != 0)) rfl ?_)
                                      cases hb157 : (r151.2 != 0)
                                      · have h := ite_f hb157 h
                                        refine gp (i6 r154.2) rfl rfl (gp (.bool (r154.2 != 0)) rfl rfl (vp (.bool (r154.2 != 0)) rfl (vp (.bool (r154.2 != 0)) rfl ?_)))
                                        cases hb158 : (r154.2 != 0)
                                        · have h := ite_f hb158 h
                                          have hl159 : LdOk [] (eA64u8 r151.1) [] 64 true (eA64u8 r151.1) := (.nil rfl rfl rfl)
                                          refine gq (eA64u8 r151.1) rfl (ld_own (i := ⟨.arr 64 5, 64, 64, (eA64u8 (vrep 64 (0 : Int)))⟩) rfl rfl rfl hl159) hl159.c ?_
                                          have hl160 : LdOk [] (eA64u8 r154.1) [] 64 true (eA64u8 r154.1) := (.nil rfl rfl rfl)
                                          refine gq (eA64u8 r154.1) rfl (ld_own (i := ⟨.arr 64 5, 64, 64, (eA64u8 (vrep 64 (0 : Int)))⟩) rfl rfl rfl hl160) hl160.c (gq (.bool ((decide (r151.1 = r154.1)))) rfl (eqa_run (f := (AV.int .u8)) (a := r151.1.1) (b := r154.1.1) rfl rfl (eqb_vec (fun _ _ => eqb_int _ _) r151.1 r154.1)) (cmp_arr (g := 8) (f := (AV.int .u8)) (x := r151.1) (y := r154.1) rfl rfl rfl (fun _ _ => rfl) (fun _ _ => cmp_int rfl)) (vp (.bool ((decide (r151.1 = r154.1)))) rfl (vp (.bool ((decide (r151.1 = r154.1)))) rfl (nx _ rfl (a_ret ?_)))))
                                          refine ⟨.inr rfl, ?_⟩
                                          rw [Try.results7]
                                          cases h
                                          exact ⟨_, _, _, _, _, rfl, trivial, .inl ⟨rfl, .inl rfl⟩, rfl, rfl⟩
                                        · have h := ite_t hb158 h
                                          refine a_gskip rfl (a_gskip rfl (a_gskip rfl (vp (.bool true) rfl (vp (.bool true) rfl (nx _ rfl (a_ret ?_))))))
                                          refine ⟨.inr rfl, ?_⟩
                                          rw [Try.results7]
                                          cases h
                                          exact ⟨_, _, _, _, _, rfl, trivial, .inl ⟨rfl, .inl rfl⟩, rfl, rfl⟩
                                      · have h := ite_t hb157 h
                                        refine a_gskip rfl (a_gskip rfl (vp (.bool true) rfl (vp (.bool true) rfl (a_gskip rfl (a_gskip rfl (a_gskip rfl (vp (.bool true) rfl (vp (.bool true) rfl (nx _ rfl ?_)))))))))
                                        refine a_ret ?_
                                        refine ⟨.inr rfl, ?_⟩
                                        rw [Try.results7]
                                        cases h
                                        exact ⟨_, _, _, _, _, rfl, trivial, .inl ⟨rfl, .inl rfl⟩, rfl, rfl⟩
                                    · have h := ite_t hb149 h
                                      refine a_cond_t rfl (sr (vp (.bool true) rfl (nx _ rfl (a_ret (t_ret ?_)))))
                                      refine ⟨.inr rfl, ?_⟩
                                      rw [Try.results7]
                                      cases h
                                      exact ⟨_, _, _, _, _, rfl, trivial, .inl ⟨rfl, .inl rfl⟩, rfl, rfl⟩
                                  · have h := ite_t hb148 h
                                    refine a_cond_t rfl (sr (vp (.bool false) rfl (nx _ rfl (a_ret (t_ret ?_)))))
                                    refine ⟨.inr rfl, ?_⟩
                                    rw [Try.results7]
                                    cases h
                                    exact ⟨_, _, _, _, _, rfl, trivial, .inl ⟨rfl, .inl rfl⟩, rfl, rfl⟩
                                · have h := hy141
                                  refine a_region (vp (i6 r132.2) rfl (vp (.bool (r132.2 != 0)) rfl (vp (.bool (r132.2 != 0)) rfl ?_)))
                                  cases hb143 : (r132.2 != 0)
                                  · have h := ite_f hb143 h
                                    refine gp (i6 r132.1) rfl rfl (gp (i6 r4.2.1) rfl rfl (gp (i6 r4.1) rfl rfl (gp (i6 (IntKind.i64.wrap (r4.1 - 1))) rfl rfl (gp (i6 (IntKind.i64.wrap (r4.2.1 * (IntKind.i64.wrap (r4.1 - 1))))) rfl rfl ?_))))
                                    obtain ⟨x144, hx145, h⟩ := letp_some h
                                    refine a_gval' rfl (v := (.bool ((decide (r132.1 < (IntKind.i64.wrap (r4.2.1 * (IntKind.i64.wrap (r4.1 - 1))))))))) (v' := (.bool x144)) (u := []) (u' := []) rfl (congrArg (fun z => ((.bool z) : AV)) hx145) rfl trivial rfl (gp (.bool x144) rfl rfl ?_)
                                    cases hb146 : x144
                                    · have h := ite_f hb146 h
                                      refine a_gskip rfl (a_gskip rfl (a_gskip rfl (gp (.bool false) rfl rfl (vp (.bool false) rfl (a_nil ?_)))))
                                      exact j_leaf false (Option.some.inj h) (by kernel_rfl)
                                    · have h := ite_t hb146 h
                                      have hl147 : LdOk [] (eA64u8 r6.1) [] 64 true (eA64u8 r6.1) := (.nil rfl rfl rfl)
                                      refine gq (eA64u8 r6.1) rfl (ld_own (i := ⟨.arr 64 5, 64, 64, (eA64u8 (vrep 64 (0 : Int)))⟩) rfl rfl rfl hl147) hl147.c (gq (eA64u8 ((vrep 64 (0 : Int)))) rfl rfl ⟨⟨_, rfl, rfl⟩, all_nil⟩ (gq (.bool ((!decide (r6.1 = ((vrep 64 (0 : Int))))))) rfl (nea_run (f := (AV.int .u8)) (a := r6.1.1) (b := ((vrep 64 (0 : Int))).1) rfl rfl (eqb_vec (fun _ _ => eqb_int _ _) r6.1 ((vrep 64 (0 : Int))))) (cmp_arr (g := 8) (f := (AV.int .u8)) (x := r6.1) (y := ((vrep 64 (0 : Int)))) rfl rfl rfl (fun _ _ => rfl) (fun _ _ => cmp_int rfl)) (gp (.bool ((!decide (r6.1 = ((vrep 64 (0 : Int))))))) rfl rfl (vp (.bool ((!decide (r6.1 = ((vrep 64 (0 : Int))))))) rfl (a_nil ?_)))))
                                      exact j_leaf ((!decide (r6.1 = ((vrep 64 (0 : Int)))))) (Option.some.inj h) (by kernel_rfl)
                                  · have h := ite_t hb143 h
                                    refine a_gskip rfl (a_gskip rfl (a_gskip rfl (a_gskip rfl (a_gskip rfl (a_gskip rfl (a_gskip rfl (a_gskip0 rfl (a_gskip0 rfl (a_gskip0 rfl ?_)))))))))
                                    refine a_gskip rfl (vp (.bool true) rfl (a_nil ?_))
                                    exact j_leaf true (Option.some.inj h) (by kernel_rfl)
                              · have h := ite_t hb131 h
                                refine a_cond_t rfl (sr (vl (eA64u8 r6.1) rfl rfl rfl rfl rfl rfl (vq (eA64u8 ((vrep 64 (0 : Int)))) rfl ⟨⟨_, rfl, rfl⟩, all_nil⟩ (vq (.bool ((decide (r6.1 = ((vrep 64 (0 : Int))))))) (eqa_run (f := (AV.int .u8)) (a := r6.1.1) (b := ((vrep 64 (0 : Int))).1) rfl rfl (eqb_vec (fun _ _ => eqb_int _ _) r6.1 ((vrep 64 (0 : Int))))) (cmp_arr (g := 8) (f := (AV.int .u8)) (x := r6.1) (y := ((vrep 64 (0 : Int)))) rfl rfl rfl (fun _ _ => rfl) (fun _ _ => cmp_int rfl)) (vp (.bool ((decide (r6.1 = ((vrep 64 (0 : Int))))))) rfl (nx _ rfl (a_ret (t_ret ?_))))))))
                                refine ⟨.inr rfl, ?_⟩
                                rw [Try.results7]
                                cases h
                                exact ⟨_, _, _, _, _, rfl, trivial, .inl ⟨rfl, .inl rfl⟩, rfl, rfl⟩
                            · have h := hy116
                              refine sr (vp (i6 r76.2) rfl (vp (.bool (r76.2 == 0)) rfl (nx ⟨[(3, (i6 r4.1)), (4, (i6 r4.2.1)), (5, (i6 r4.2.2)), (6, (ow 6)), (7, (i6 r6.2)), (30, (i6 r74.1)), (31, (i6 r74.2)), (32, (i6 r76.1)), (199, (.bool (r76.2 == 0)))], [(6, (bk (eA64u8 r6.1)))]⟩ (by kernel_rfl) ?_)))
                              cases hb118 : (r76.2 == 0)
                              · have h := ite_f hb118 h
                                refine a_cond_f rfl (a_skip ?_)
                                exact j_leaf () (Option.some.inj h) (by kernel_rfl)
                              · have h := ite_t hb118 h
                                refine a_cond_t rfl (sr (vp (i6 r74.1) rfl (vp (i6 r76.1) rfl (vp (i6 r74.2) rfl ?_))))
                                obtain ⟨r119, hr120, h⟩ := bind_some h
                                refine a_call (args := [(i6 r74.1), (i6 r76.1), (i6 r74.2)]) (u := []) (r := (.tuple [(eA64u8 r119.1), (i6 r119.2)])) rfl rfl (impl_PowerSum_ok r74.1 r76.1 r74.2 r119 hr120) rfl (vp (.tuple [(eA64u8 r119.1), (i6 r119.2)]) rfl (vb (eA64u8 r119.1) rfl rfl (vb (i6 r119.2) rfl rfl (vo 4600 (eA64u8 ((vrep 64 (0 : Int)))) rfl rfl (vs (eA64u8 r119.1) rfl rfl (fun _ => rfl) rfl rfl rfl rfl rfl rfl (vp (i6 r119.2) rfl (nx ⟨[(3, (i6 r4.1)), (4, (i6 r4.2.1)), (5, (i6 r4.2.2)), (6, (ow 6)), (7, (i6 r6.2)), (36, (ow 36)), (37, (i6 r119.2))], [(6, (bk (eA64u8 r6.1))), (36, (bk (eA64u8 r119.1)))]⟩ (by kernel_rfl) ?_)))))))
                                obtain ⟨y125, hy126, hk127⟩ := bind_some h
                                clear h
                                refine a_join (emb := fun (s : Bool) => ⟨[(3, (i6 r4.1)), (4, (i6 r4.2.1)), (5, (i6 r4.2.2)), (6, (ow 6)), (7, (i6 r6.2)), (213, (.bool s))], [(6, (bk (eA64u8 r6.1)))]⟩) (pre := fun s => s = y125) ?_ ?_
                                · rintro x124 rfl
                                  have h := hk127
                                  refine a_st (σ' := ⟨[(3, (i6 r4.1)), (4, (i6 r4.2.1)), (5, (i6 r4.2.2)), (6, (ow 6)), (7, (i6 r6.2)), (213, (.bool x124))], [(6, (bk (eA64u8 r6.1)))]⟩) (by kernel_rfl) ?_
                                  cases hb130 : x124
                                  · have h := ite_f hb130 h
                                    refine a_cond_f rfl (a_skip ?_)
                                    exact j_leaf () (Option.some.inj h) (by kernel_rfl)
                                  · have h := ite_t hb130 h
                                    refine a_cond_t rfl (sr (vp (.bool false) rfl (nx _ rfl (a_ret (t_ret ?_)))))
                                    cases h
                                    have h := hk117
                                    refine ⟨.inr rfl, ?_⟩
                                    rw [Try.results7]
                                    cases h
                                    exact ⟨_, _, _, _, _, rfl, trivial, .inl ⟨rfl, .inl rfl⟩, rfl, rfl⟩
                                · have h := hy126
                                  refine a_region (vp (i6 r119.2) rfl (vp (.bool (r119.2 != 0)) rfl (vp (.bool (r119.2 != 0)) rfl ?_)))
                                  cases hb128 : (r119.2 != 0)
                                  · have h := ite_f hb128 h
                                    have hl129 : LdOk [] (eA64u8 r119.1) [] 64 true (eA64u8 r119.1) := (.nil rfl rfl rfl)
                                    refine gq (eA64u8 r119.1) rfl (ld_own (i := ⟨.arr 64 5, 64, 64, (eA64u8 (vrep 64 (0 : Int)))⟩) rfl rfl rfl hl129) hl129.c (gq (eA64u8 ((vrep 64 (0 : Int)))) rfl rfl ⟨⟨_, rfl, rfl⟩, all_nil⟩ (gq (.bool ((!decide (r119.1 = ((vrep 64 (0 : Int))))))) rfl (nea_run (f := (AV.int .u8)) (a := r119.1.1) (b := ((vrep 64 (0 : Int))).1) rfl rfl (eqb_vec (fun _ _ => eqb_int _ _) r119.1 ((vrep 64 (0 : Int))))) (cmp_arr (g := 8) (f := (AV.int .u8)) (x := r119.1) (y := ((vrep 64 (0 : Int)))) rfl rfl rfl (fun _ _ => rfl) (fun _ _ => cmp_int rfl)) (vp (.bool ((!decide (r119.1 = ((vrep 64 (0 : Int))))))) rfl (a_nil ?_))))
                                    exact j_leaf ((!decide (r119.1 = ((vrep 64 (0 : Int)))))) (Option.some.inj h) (by kernel_rfl)
                                  · have h := ite_t hb128 h
                                    refine a_gskip rfl (a_gskip rfl (a_gskip rfl (vp (.bool true) rfl (a_nil ?_))))
                                    exact j_leaf true (Option.some.inj h) (by kernel_rfl)
                          · have h := ite_t hb101 h
                            refine a_cond_t rfl (sr (vp (.bool false) rfl (nx _ rfl (a_ret (t_ret ?_)))))
                            refine ⟨.inr rfl, ?_⟩
                            rw [Try.results7]
                            cases h
                            exact ⟨_, _, _, _, _, rfl, trivial, .inl ⟨rfl, .inl rfl⟩, rfl, rfl⟩
                        · have h := hy94
                          refine a_region (vp (i6 r38.2) rfl (vp (.bool (r38.2 == 0)) rfl (vp (.bool (r38.2 == 0)) rfl ?_)))
                          cases hb96 : (r38.2 == 0)
                          · have h := ite_f hb96 h
                            refine a_gskip rfl (a_gskip rfl (vp (.bool false) rfl (vp (.bool false) rfl (a_gskip rfl (a_gskip rfl (a_gskip rfl (a_gskip rfl (a_gskip rfl (vp (.bool false) rfl ?_)))))))))
                            refine vp (.bool false) rfl (a_gskip rfl (a_gskip rfl (a_gskip rfl (vp (.bool false) rfl (a_nil ?_)))))
                            exact j_leaf false (Option.some.inj h) (by kernel_rfl)
                          · have h := ite_t hb96 h
                            refine gp (i6 r36.2) rfl rfl (gp (.bool ((decide (r36.2 > 0)))) rfl rfl (vp (.bool ((decide (r36.2 > 0)))) rfl (vp (.bool ((decide (r36.2 > 0)))) rfl ?_)))
                            cases hb97 : (decide (r36.2 > 0))
                            · have h := ite_f hb97 h
                              refine a_gskip rfl (a_gskip rfl (a_gskip rfl (a_gskip rfl (a_gskip rfl (vp (.bool false) rfl (vp (.bool false) rfl (a_gskip rfl (a_gskip rfl (a_gskip rfl ?_)))))))))
                              refine vp (.bool false) rfl (a_nil ?_)
                              exact j_leaf false (Option.some.inj h) (by kernel_rfl)
                            · have h := ite_t hb97 h
                              refine gp (i6 r36.2) rfl rfl (gp (i6 r36.1) rfl rfl (gp (i6 (IntKind.i64.wrap (r36.1 - 1))) rfl rfl ?_))
                              obtain ⟨hc98, h⟩ := ifp_some h
                              refine gq (i6 (Int.tmod r36.2 (IntKind.i64.wrap (r36.1 - 1)))) rfl rfl hc98 (gp (.bool (((Int.tmod r36.2 (IntKind.i64.wrap (r36.1 - 1))) == 0))) rfl rfl (vp (.bool (((Int.tmod r36.2 (IntKind.i64.wrap (r36.1 - 1))) == 0))) rfl (vp (.bool (((Int.tmod r36.2 (IntKind.i64.wrap (r36.1 - 1))) == 0))) rfl ?_)))
                              cases hb99 : ((Int.tmod r36.2 (IntKind.i64.wrap (r36.1 - 1))) == 0)
                              · have h := ite_f hb99 h
                                refine a_gskip rfl (a_gskip rfl (a_gskip rfl (vp (.bool false) rfl (a_nil ?_))))
                                exact j_leaf false (Option.some.inj h) (by kernel_rfl)
                              · have h := ite_t hb99 h
                                have hl100 : LdOk [] (eA64u8 r38.1) [] 64 true (eA64u8 r38.1) := (.nil rfl rfl rfl)
                                refine gq (eA64u8 r38.1) rfl (ld_own (i := ⟨.arr 64 5, 64, 64, (eA64u8 (vrep 64 (0 : Int)))⟩) rfl rfl rfl hl100) hl100.c (gq (eA64u8 ((vrep 64 (0 : Int)))) rfl rfl ⟨⟨_, rfl, rfl⟩, all_nil⟩ (gq (.bool ((!decide (r38.1 = ((vrep 64 (0 : Int))))))) rfl (nea_run (f := (AV.int .u8)) (a := r38.1.1) (b := ((vrep 64 (0 : Int))).1) rfl rfl (eqb_vec (fun _ _ => eqb_int _ _) r38.1 ((vrep 64 (0 : Int))))) (cmp_arr (g := 8) (f := (AV.int .u8)) (x := r38.1) (y := ((vrep 64 (0 : Int)))) rfl rfl rfl (fun _ _ => rfl) (fun _ _ => cmp_int rfl)) (vp (.bool ((!decide (r38.1 = ((vrep 64 (0 : Int))))))) rfl (a_nil ?_))))
                                exact j_leaf ((!decide (r38.1 = ((vrep 64 (0 : Int)))))) (Option.some.inj h) (by kernel_rfl)
                      · have h := ite_t hb86 h
                        refine a_cond_t rfl (sr (vp (.bool false) rfl (nx _ rfl (a_ret (t_ret ?_)))))
                        refine ⟨.inr rfl, ?_⟩
                        rw [Try.results7]
                        cases h
                        exact ⟨_, _, _, _, _, rfl, trivial, .inl ⟨rfl, .inl rfl⟩, rfl, rfl⟩
                    · have h := hy83
                      refine a_region (vp (i6 r76.2) rfl (vp (i6 r78.2) rfl (vp (.bool (r76.2 != r78.2)) rfl (vp (.bool (r76.2 != r78.2)) rfl ?_))))
                      cases hb85 : (r76.2 != r78.2)
                      · have h := ite_f hb85 h
                        refine gp (i6 r76.1) rfl rfl (gp (i6 r78.1) rfl rfl (gp (.bool (r76.1 != r78.1)) rfl rfl (vp (.bool (r76.1 != r78.1)) rfl (a_nil ?_))))
                        exact j_leaf (r76.1 != r78.1) (Option.some.inj h) (by kernel_rfl)
                      · have h := ite_t hb85 h
                        refine a_gskip rfl (a_gskip rfl (a_gskip rfl (vp (.bool true) rfl (a_nil ?_))))
                        exact j_leaf true (Option.some.inj h) (by kernel_rfl)
                  · have h := ite_t hb73 h
                    refine a_cond_t rfl (sr (vp (.bool false) rfl (nx _ rfl (a_ret (t_ret ?_)))))
                    refine ⟨.inr rfl, ?_⟩
                    rw [Try.results7]
                    cases h
                    exact ⟨_, _, _, _, _, rfl, trivial, .inl ⟨rfl, .inl rfl⟩, rfl, rfl⟩
                · have h := hy68
                  refine a_region (vp (i6 r57.2) rfl (vp (i6 r60.2) rfl (vp (.bool (r57.2 != r60.2)) rfl (vp (.bool (r57.2 != r60.2)) rfl ?_))))
                  cases hb70 : (r57.2 != r60.2)
                  · have h := ite_f hb70 h
                    have hl71 : LdOk [] (eA64u8 r57.1) [] 64 true (eA64u8 r57.1) := (.nil rfl rfl rfl)
                    refine gq (eA64u8 r57.1) rfl (ld_own (i := ⟨.arr 64 5, 64, 64, (eA64u8 (vrep 64 (0 : Int)))⟩) rfl rfl rfl hl71) hl71.c ?_
                    have hl72 : LdOk [] (eA64u8 r60.1) [] 64 true (eA64u8 r60.1) := (.nil rfl rfl rfl)
                    refine gq (eA64u8 r60.1) rfl (ld_own (i := ⟨.arr 64 5, 64, 64, (eA64u8 (vrep 64 (0 : Int)))⟩) rfl rfl rfl hl72) hl72.c (gq (.bool ((!decide (r57.1 = r60.1)))) rfl (nea_run (f := (AV.int .u8)) (a := r57.1.1) (b := r60.1.1) rfl rfl (eqb_vec (fun _ _ => eqb_int _ _) r57.1 r60.1)) (cmp_arr (g := 8) (f := (AV.int .u8)) (x := r57.1) (y := r60.1) rfl rfl rfl (fun _ _ => rfl) (fun _ _ => cmp_int rfl)) (vp (.bool ((!decide (r57.1 = r60.1)))) rfl (a_nil ?_)))
                    exact j_leaf ((!decide (r57.1 = r60.1))) (Option.some.inj h) (by kernel_rfl)
                  · have h := ite_t hb70 h
                    refine a_gskip rfl (a_gskip rfl (a_gskip rfl (vp (.bool true) rfl (a_nil ?_))))
                    exact j_leaf true (Option.some.inj h) (by kernel_rfl)
              · have h := ite_t hb54 h
                refine a_cond_t rfl (sr (vp (.bool false) rfl (nx _ rfl (a_ret (t_ret ?_)))))
                refine ⟨.inr rfl, ?_⟩
                rw [Try.results7]
                cases h
                exact ⟨_, _, _, _, _, rfl, trivial, .inl ⟨rfl, .inl rfl⟩, rfl, rfl⟩
            · have h := hy49
              refine a_region (vp (i6 r38.2) rfl (vp (i6 r41.2) rfl (vp (.bool (r38.2 != r41.2)) rfl (vp (.bool (r38.2 != r41.2)) rfl ?_))))
              cases hb51 : (r38.2 != r41.2)
              · have h := ite_f hb51 h
                have hl52 : LdOk [] (eA64u8 r38.1) [] 64 true (eA64u8 r38.1) := (.nil rfl rfl rfl)
                refine gq (eA64u8 r38.1) rfl (ld_own (i := ⟨.arr 64 5, 64, 64, (eA64u8 (vrep 64 (0 : Int)))⟩) rfl rfl rfl hl52) hl52.c ?_
                have hl53 : LdOk [] (eA64u8 r41.1) [] 64 true (eA64u8 r41.1) := (.nil rfl rfl rfl)
                refine gq (eA64u8 r41.1) rfl (ld_own (i := ⟨.arr 64 5, 64, 64, (eA64u8 (vrep 64 (0 : Int)))⟩) rfl rfl rfl hl53) hl53.c (gq (.bool ((!decide (r38.1 = r41.1)))) rfl (nea_run (f := (AV.int .u8)) (a := r38.1.1) (b := r41.1.1) rfl rfl (eqb_vec (fun _ _ => eqb_int _ _) r38.1 r41.1)) (cmp_arr (g := 8) (f := (AV.int .u8)) (x := r38.1) (y := r41.1) rfl rfl rfl (fun _ _ => rfl) (fun _ _ => cmp_int rfl)) (vp (.bool ((!decide (r38.1 = r41.1)))) rfl (a_nil ?_)))
                exact j_leaf ((!decide (r38.1 = r41.1))) (Option.some.inj h) (by kernel_rfl)
              · have h := ite_t hb51 h
                refine a_gskip rfl (a_gskip rfl (a_gskip rfl (vp (.bool true) rfl (a_nil ?_))))
                exact j_leaf true (Option.some.inj h) (by kernel_rfl)
          · have h := ite_t hb35 h
            refine a_cond_t rfl (sr (vp (.bool false) rfl (nx _ rfl (a_ret (t_ret ?_)))))
            refine ⟨.inr rfl, ?_⟩
            rw [Try.results7]
            cases h
            exact ⟨_, _, _, _, _, rfl, trivial, .inl ⟨rfl, .inl rfl⟩, rfl, rfl⟩
        · have h := hy32
          refine a_region (vp (i6 r25.2) rfl (vp (i6 r27.2) rfl (vp (.bool (r25.2 != r27.2)) rfl (vp (.bool (r25.2 != r27.2)) rfl ?_))))
          cases hb34 : (r25.2 != r27.2)
          · have h := ite_f hb34 h
            refine gp (i6 r25.1) rfl rfl (gp (i6 r27.1) rfl rfl (gp (.bool (r25.1 != r27.1)) rfl rfl (vp (.bool (r25.1 != r27.1)) rfl (a_nil ?_))))
            exact j_leaf (r25.1 != r27.1) (Option.some.inj h) (by kernel_rfl)
          · have h := ite_t hb34 h
            refine a_gskip rfl (a_gskip rfl (a_gskip rfl (vp (.bool true) rfl (a_nil ?_))))
            exact j_leaf true (Option.some.inj h) (by kernel_rfl)
      · have h := ite_t hb22 h
        refine a_cond_t rfl (sr (vp (.bool false) rfl (nx _ rfl (a_ret (t_ret ?_)))))
        refine ⟨.inr rfl, ?_⟩
        rw [Try.results7]
        cases h
        exact ⟨_, _, _, _, _, rfl, trivial, .inl ⟨rfl, .inl rfl⟩, rfl, rfl⟩
    · have h := hy17
      refine a_region (vp (i6 r6.2) rfl (vp (i6 r9.2) rfl (vp (.bool (r6.2 != r9.2)) rfl (vp (.bool (r6.2 != r9.2)) rfl ?_))))
      cases hb19 : (r6.2 != r9.2)
      · have h := ite_f hb19 h
        have hl20 : LdOk [] (eA64u8 r6.1) [] 64 true (eA64u8 r6.1) := (.nil rfl rfl rfl)
        refine gq (eA64u8 r6.1) rfl (ld_own (i := ⟨.arr 64 5, 64, 64, (eA64u8 (vrep 64 (0 : Int)))⟩) rfl rfl rfl hl20) hl20.c ?_
        have hl21 : LdOk [] (eA64u8 r9.1) [] 64 true (eA64u8 r9.1) := (.nil rfl rfl rfl)
        refine gq (eA64u8 r9.1) rfl (ld_own (i := ⟨.arr 64 5, 64, 64, (eA64u8 (vrep 64 (0 : Int)))⟩) rfl rfl rfl hl21) hl21.c (gq (.bool ((!decide (r6.1 = r9.1)))) rfl (nea_run (f := (AV.int .u8)) (a := r6.1.1) (b := r9.1.1) rfl rfl (eqb_vec (fun _ _ => eqb_int _ _) r6.1 r9.1)) (cmp_arr (g := 8) (f := (AV.int .u8)) (x := r6.1) (y := r9.1) rfl rfl rfl (fun _ _ => rfl) (fun _ _ => cmp_int rfl)) (vp (.bool ((!decide (r6.1 = r9.1)))) rfl (a_nil ?_)))
        exact j_leaf ((!decide (r6.1 = r9.1))) (Option.some.inj h) (by kernel_rfl)
      · have h := ite_t hb19 h
        refine a_gskip rfl (a_gskip rfl (a_gskip rfl (vp (.bool true) rfl (a_nil ?_))))
        exact j_leaf true (Option.some.inj h) (by kernel_rfl)
  · have h := ite_t hb3 h
    refine a_cond_t rfl (sr (vp (.bool true) rfl (nx _ rfl (a_ret (t_ret ?_)))))
    refine ⟨.inr rfl, ?_⟩
    rw [Try.results7]
    cases h
    exact ⟨_, _, _, _, _, rfl, trivial, .inl ⟨rfl, .inl rfl⟩, rfl, rfl⟩
def impl_MultiplyPolys_c : ACode := (.seq (.region 0 [q 4 (.box 25 (t 1)), q 5 (.box 25 (t 2)), q 6 (.alloc 25), q 7 (.asg 0 (.const (.int .i64 0)) 2)] false) (.seq (.seq (.region 1 [q 9 (.mov (t 0)), q 10 (.load 25 (t 4)), q 11 (.load 25 (t 5)), q 12 (.bslice 0 55 2 [(0, (t 10)), (1, (t 11))]), q 13 (.call 0 (.func 100) [(t 9), (t 12)]), q 8 (.asg 0 (t 13) 2)] false) (.seq (.region 2 [q 14 (.mov (t 8)), q 15 (.bin .neq 2 (t 14) (.const (.int .i64 0)))] false) (.cond (t 15) (.seq (.region 3 [q 16 (.build 25 []), q 17 (.mov (t 8)), ⟨none, .store 25 (t 6) (t 16), none, []⟩, q 7 (.asg 0 (t 17) 2)] false) .ret) .skip))) (.seq (.region 4 [q 18 (.mov (t 0)), q 19 (.load 25 (t 4)), ⟨some 20, .call 0 (.func 103) [(t 19)], none, [1]⟩, q 21 (.load 25 (t 5)), ⟨some 22, .call 0 (.func 103) [(t 21)], none, [3, 2]⟩, ⟨some 23, .call 0 (.func 102) [(t 18), (t 20), (t 22)], none, [0, 2, 4, 4]⟩, ⟨some 24, .call 0 (.func 101) [(t 23)], none, [5, 5]⟩, ⟨some 25, .extract (t 24) 0, none, [6]⟩, ⟨some 26, .extract (t 24) 1, none, [6]⟩, ⟨none, .store 25 (t 6) (t 25), none, [7, 6, 0, 1, 2, 3, 4, 5, 6, 7, 8]⟩, ⟨some 7, .asg 0 (t 26) 2, none, [8, 9, 0, 1, 2, 3, 4, 5, 6, 7, 8, 9]⟩] true) .ret)))
def impl_MultiplyPolys_L : Live := [(0, [0, 1, 2]), (1, [0, 4, 5, 6]), (2, [0, 4, 5, 6, 8]), (3, [6, 8]), (4, [0, 4, 5, 6]), (100015, [0, 4, 5, 6, 8, 15])]
noncomputable def impl_MultiplyPolys (a0 : Int) (a1 : (Vec Int 64)) (a2 : (Vec Int 64)) : Option ((Vec Int 64) × Int) :=
  (Option.bind (impl_polysCode a0 ([a1, a2])) fun r3 => (if (r3 != 0) then (some (((vrep 64 (0 : Int)), r3))) else (Option.bind (impl_rowOf a1) fun r18 => (Option.bind (impl_rowOf a2) fun r21 => (Option.bind (impl_prime_times a0 r18 r21) fun r23 => (Option.bind (impl_told r23) fun r25 => (some (r25.1, r25.2))))))))
theorem impl_MultiplyPolys_ok (a0 : Int) (a1 : (Vec Int 64)) (a2 : (Vec Int 64)) (r : ((Vec Int 64) × Int)) (h : impl_MultiplyPolys a0 a1 a2 = some r) : Den Try.prog 12 [(i6 a0), (eA64u8 a1), (eA64u8 a2)] { r := (.tuple [(eA64u8 r.1), (i6 r.2)]) } := by
  refine den_of (rs := [(eA64u8 r.1), (i6 r.2)]) (ac := impl_MultiplyPolys_c) (L := impl_MultiplyPolys_L) (n := 27) (m := []) (c := Try.f12.body.getD .skip) good Try.func12 (by kernel_rfl) (by kernel_rfl) Try.ntmps12 rfl rfl (by kernel_rfl) rfl rfl ?_
  refine a_st (σ' := ⟨[(0, (i6 a0)), (1, (eA64u8 a1)), (2, (eA64u8 a2))], []⟩) (by kernel_rfl) ?_
  unfold impl_MultiplyPolys_c
  refine sr (vo 1400 (eA64u8 a1) rfl rfl (vo 1500 (eA64u8 a2) rfl rfl (vo 1600 (eA64u8 ((vrep 64 (0 : Int)))) rfl rfl (vp (i6 0) rfl (nx ⟨[(0, (i6 a0)), (4, (ow 4)), (5, (ow 5)), (6, (ow 6))], [(4, (bk (eA64u8 a1))), (5, (bk (eA64u8 a2))), (6, (bk (eA64u8 ((vrep 64 (0 : Int))))))]⟩ (by kernel_rfl) (a_seq (sr (vp (i6 a0) rfl (vl (eA64u8 a1) rfl rfl rfl rfl rfl rfl ?_)))))))))
  refine vl (eA64u8 a2) rfl rfl rfl rfl rfl rfl (vq (.sl 64 true (([a1, a2]).map eA64u8)) rfl ⟨(Nat.le_of_ble_eq_true rfl), (Nat.le_of_ble_eq_true rfl), (all_cons ⟨(Nat.le_of_ble_eq_true rfl), rfl⟩ (all_cons ⟨(Nat.le_of_ble_eq_true rfl), rfl⟩ all_nil))⟩ ?_)
  obtain ⟨r3, hr4, h⟩ := bind_some h
  refine a_call (args := [(i6 a0), (.sl 64 true (([a1, a2]).map eA64u8))]) (u := []) (r := (i6 r3)) rfl rfl (Den.args (impl_polysCode_ok a0 ([a1, a2]) r3 hr4) rfl rfl (.cons (.refl _) (.cons (.loose _) .nil))) rfl (vp (i6 r3) rfl (nx ⟨[(0, (i6 a0)), (4, (ow 4)), (5, (ow 5)), (6, (ow 6)), (8, (i6 r3))], [(4, (bk (eA64u8 a1))), (5, (bk (eA64u8 a2))), (6, (bk (eA64u8 ((vrep 64 (0 : Int))))))]⟩ (by kernel_rfl) (sr (vp (i6 r3) rfl (vp (.bool (r3 != 0)) rfl (nx ⟨[(0, (i6 a0)), (4, (ow 4)), (5, (ow 5)), (6, (ow 6)), (8, (i6 r3)), (15, (.bool (r3 != 0)))], [(4, (bk (eA64u8 a1))), (5, (bk (eA64u8 a2))), (6, (bk (eA64u8 ((vrep 64 (0 : Int))))))]⟩ (by kernel_rfl) ?_))))))
  cases hb5 : (r3 != 0)
  · have h := ite_f hb5 h
    refine a_cond_f rfl (a_skip (a_next (σ' := ⟨[(0, (i6 a0)), (4, (ow 4)), (5, (ow 5)), (6, (ow 6))], [(4, (bk (eA64u8 a1))), (5, (bk (eA64u8 a2))), (6, (bk (eA64u8 ((vrep 64 (0 : Int))))))]⟩) (by kernel_rfl) (a_seq (a_draw [⟨[], [], [], []⟩, ⟨[4], [], [], []⟩, ⟨[], [], [], [1]⟩, ⟨[5], [], [], []⟩, ⟨[], [], [], [1, 2, 3]⟩, ⟨[], [], [], [0, 1, 2, 3, 4]⟩, ⟨[], [], [], [0, 1, 2, 3, 4, 5]⟩, ⟨[], [], [], [0, 1, 2, 3, 4, 5, 6]⟩, ⟨[], [], [], [0, 1, 2, 3, 4, 5, 6]⟩, ⟨[6], [6], [], [0, 1, 2, 3, 4, 5, 6, 7, 8]⟩, ⟨[], [], [], [0, 1, 2, 3, 4, 5, 6, 7, 8, 9]⟩] (by kernel_rfl) (dp (i6 a0) rfl (by kernel_rfl) (d_cons (vl (eA64u8 a1) rfl rfl rfl rfl rfl rfl (d_next (by kernel_rfl) (d_cons ?_)))))))))
    obtain ⟨r18, hr19, h⟩ := bind_some h
    refine a_call (args := [(eA64u8 a1)]) (u := []) (r := (eSi64 r18)) rfl rfl (impl_rowOf_ok a1 r18 hr19) rfl (d_next (by kernel_rfl) (d_cons (vl (eA64u8 a2) rfl rfl rfl rfl rfl rfl (d_next (by kernel_rfl) (d_cons ?_)))))
    obtain ⟨r21, hr22, h⟩ := bind_some h
    refine a_call (args := [(eA64u8 a2)]) (u := []) (r := (eSi64 r21)) rfl rfl (impl_rowOf_ok a2 r21 hr22) rfl (d_next (by kernel_rfl) (d_cons ?_))
    obtain ⟨r23, hr24, h⟩ := bind_some h
    refine a_call (args := [(i6 a0), (eSi64 r18), (eSi64 r21)]) (u := []) (r := (eSi64 r23)) rfl rfl (impl_prime_times_ok a0 r18 r21 r23 hr24) rfl (d_next (by kernel_rfl) (d_cons ?_))
    obtain ⟨r25, hr26, h⟩ := bind_some h
    refine a_call (args := [(eSi64 r23)]) (u := []) (r := (.tuple [(eA64u8 r25.1), (i6 r25.2)])) rfl rfl (impl_told_ok r23 r25 hr26) rfl (d_next (by kernel_rfl) (d_cons (vb (eA64u8 r25.1) rfl rfl (d_next (by kernel_rfl) (d_cons (vb (i6 r25.2) rfl rfl (d_next (by kernel_rfl) (d_cons (vs (eA64u8 r25.1) rfl rfl (fun _ => rfl) rfl rfl rfl rfl rfl rfl ?_)))))))))
    refine d_next (by kernel_rfl) (dp (i6 r25.2) rfl (by kernel_rfl) (d_nil (a_next rfl (a_ret ?_))))
    have hl28 : LdOk [] (eA64u8 r25.1) [] 64 true (eA64u8 r25.1) := (.nil rfl rfl rfl)
    refine ⟨.inr rfl, ?_⟩
    rw [Try.results12]
    cases h
    exact ⟨_, _, _, _, _, ld_own (i := ⟨.arr 64 5, 64, 64, (eA64u8 (vrep 64 (0 : Int)))⟩) rfl rfl rfl hl28, hl28.c, .inl ⟨rfl, .inl rfl⟩, rfl, ⟨_, _, _, _, _, rfl, trivial, .inl ⟨rfl, .inl rfl⟩, rfl, rfl⟩⟩
  · have h := ite_t hb5 h
    refine a_cond_t rfl (sr (vq (eA64u8 ((vrep 64 (0 : Int)))) rfl ⟨⟨_, rfl, rfl⟩, all_nil⟩ (vp (i6 r3) rfl (vs (eA64u8 ((vrep 64 (0 : Int)))) rfl rfl (fun _ => rfl) rfl rfl rfl rfl rfl rfl (vp (i6 r3) rfl (nx _ rfl (a_ret (t_ret ?_))))))))
    have hl30 : LdOk [] (eA64u8 ((vrep 64 (0 : Int)))) [] 64 true (eA64u8 ((vrep 64 (0 : Int)))) := (.nil rfl rfl rfl)
    refine ⟨.inr rfl, ?_⟩
    rw [Try.results12]
    cases h
    exact ⟨_, _, _, _, _, ld_own (i := ⟨.arr 64 5, 64, 64, (eA64u8 (vrep 64 (0 : Int)))⟩) rfl rfl rfl hl30, hl30.c, .inl ⟨rfl, .inl rfl⟩, rfl, ⟨_, _, _, _, _, rfl, trivial, .inl ⟨rfl, .inl rfl⟩, rfl, rfl⟩⟩
end Go.Proofs.Ytkbnegemdlnncaa
