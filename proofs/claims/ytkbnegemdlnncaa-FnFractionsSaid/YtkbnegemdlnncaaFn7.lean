/- Functions of the program: plain Lean functions, and that the program computes them. Printed by gen.py. -/
import Derived.Test.YtkbnegemdlnncaaFnT
import Derived.Test.YtkbnegemdlnncaaFn1
import Derived.Test.YtkbnegemdlnncaaFn2
import Derived.Test.YtkbnegemdlnncaaFn3
import Derived.Test.YtkbnegemdlnncaaFn4
import Derived.Test.YtkbnegemdlnncaaFn5
import Derived.Test.YtkbnegemdlnncaaFn6
namespace Go.Proofs.Ytkbnegemdlnncaa
open Go.Abs Go.Proofs
set_option linter.unusedSimpArgs false
set_option linter.unusedVariables false
set_option maxHeartbeats 16000000
attribute [local irreducible] Abs.acode Abs.aops Abs.aopsT Abs.thenK Abs.blockK

def laws_FnFractions_c : ACode := (.seq (.region 0 [q 2 (.asg 0 (.const (.bool false)) 4)] false) (.seq (.seq (.region 1 [q 55 (.mov (t 0)), q 56 (.call 0 (.func 10) [(t 55)])] false) (.cond (t 56) (.seq (.region 2 [q 2 (.asg 0 (.const (.bool true)) 4)] false) .ret) .skip)) (.seq (.region 3 [q 58 (.mov (t 0)), q 59 (.call 0 (.func 62) [(t 58)]), q 57 (.mov (t 59)), q 60 (.extract (t 57) 0), q 61 (.extract (t 57) 1), q 62 (.extract (t 57) 2), q 4 (.alloc 25), q 5 (.alloc 25), q 3 (.asg 0 (t 60) 2), ⟨none, .store 25 (t 4) (t 61), none, []⟩, ⟨none, .store 25 (t 5) (t 62), none, []⟩] false) (.seq (.region 4 [q 64 (.mov (t 3)), q 65 (.load 25 (t 4)), q 66 (.load 25 (t 5)), q 67 (.call 0 (.func 63) [(t 64), (t 65), (t 66)]), q 63 (.mov (t 67)), q 68 (.extract (t 63) 0), q 69 (.extract (t 63) 1), q 6 (.asg 1 (t 68) 55), q 7 (.asg 0 (t 69) 2)] false) (.seq (.seq (.region 5 [q 71 (.mov (t 3)), q 72 (.load 25 (t 4)), q 73 (.load 25 (t 5)), q 74 (.call 0 (.func 64) [(t 71), (t 72), (t 73)]), q 70 (.mov (t 74)), q 75 (.extract (t 70) 0), q 76 (.extract (t 70) 1), q 8 (.asg 1 (t 75) 55), q 9 (.asg 0 (t 76) 2)] false) (.seq (.region 6 [q 77 (.mov (t 7)), q 78 (.mov (t 9)), q 79 (.bin .neq 2 (t 77) (t 78)), q 80 (.mov (t 79)), ⟨some 81, .mov (t 6), some (80, false), []⟩, ⟨some 82, .mov (t 8), some (80, false), []⟩, ⟨some 83, .call 0 (.func 65) [(t 81), (t 82)], some (80, false), []⟩, ⟨some 84, .un .not (t 83), some (80, false), []⟩, q 85 (.pick (t 80) (.const (.bool true)) (t 84))] false) (.cond (t 85) (.seq (.region 7 [q 2 (.asg 0 (.const (.bool false)) 4)] false) .ret) .skip))) (.seq (.region 8 [q 87 (.mov (t 3)), q 88 (.load 25 (t 4)), q 89 (.load 25 (t 5)), q 90 (.call 0 (.func 66) [(t 87), (t 88), (t 89)]), q 86 (.mov (t 90)), q 91 (.extract (t 86) 0), q 92 (.extract (t 86) 1), q 10 (.asg 1 (t 91) 59), q 11 (.asg 0 (t 92) 2)] false) (.seq (.seq (.region 9 [q 94 (.mov (t 3)), q 95 (.load 25 (t 4)), q 96 (.load 25 (t 5)), q 97 (.call 0 (.func 67) [(t 94), (t 95), (t 96)]), q 93 (.mov (t 97)), q 98 (.extract (t 93) 0), q 99 (.extract (t 93) 1), q 12 (.asg 1 (t 98) 59), q 13 (.asg 0 (t 99) 2)] false) (.seq (.region 10 [q 100 (.mov (t 11)), q 101 (.mov (t 13)), q 102 (.bin .neq 2 (t 100) (t 101)), q 103 (.mov (t 102)), ⟨some 104, .mov (t 10), some (103, false), []⟩, ⟨some 105, .mov (t 12), some (103, false), []⟩, ⟨some 106, .call 0 (.func 68) [(t 104), (t 105)], some (103, false), []⟩, ⟨some 107, .un .not (t 106), some (103, false), []⟩, q 108 (.pick (t 103) (.const (.bool true)) (t 107))] false) (.cond (t 108) (.seq (.region 11 [q 2 (.asg 0 (.const (.bool false)) 4)] false) .ret) .skip))) (.seq (.region 12 [q 110 (.mov (t 0)), q 111 (.call 0 (.func 69) [(t 110)]), q 109 (.mov (t 111)), q 112 (.extract (t 109) 0), q 113 (.extract (t 109) 1), q 14 (.asg 0 (t 112) 2), q 15 (.asg 1 (t 113) 55)] false) (.seq (.region 13 [q 115 (.mov (t 14)), q 116 (.mov (t 15)), q 117 (.call 0 (.func 70) [(t 115), (t 116)]), q 114 (.mov (t 117)), q 118 (.extract (t 114) 0), q 119 (.extract (t 114) 1), q 120 (.extract (t 114) 2), q 16 (.asg 1 (t 118) 55), q 17 (.asg 1 (t 119) 55), q 18 (.asg 0 (t 120) 2)] false) (.seq (.seq (.region 14 [q 122 (.mov (t 14)), q 123 (.mov (t 15)), q 124 (.call 0 (.func 71) [(t 122), (t 123)]), q 121 (.mov (t 124)), q 125 (.extract (t 121) 0), q 126 (.extract (t 121) 1), q 127 (.extract (t 121) 2), q 19 (.asg 1 (t 125) 55), q 20 (.asg 1 (t 126) 55), q 21 (.asg 0 (t 127) 2)] false) (.seq (.region 15 [q 128 (.mov (t 18)), q 129 (.mov (t 21)), q 130 (.bin .neq 2 (t 128) (t 129)), q 131 (.mov (t 130)), ⟨some 132, .mov (t 16), some (131, false), []⟩, ⟨some 133, .mov (t 19), some (131, false), []⟩, ⟨some 134, .call 0 (.func 65) [(t 132), (t 133)], some (131, false), []⟩, ⟨some 135, .un .not (t 134), some (131, false), []⟩, q 136 (.pick (t 131) (.const (.bool true)) (t 135)), q 137 (.mov (t 136)), ⟨some 138, .mov (t 17), some (137, false), []⟩, ⟨some 139, .mov (t 20), some (137, false), []⟩, ⟨some 140, .call 0 (.func 65) [(t 138), (t 139)], some (137, false), []⟩, ⟨some 141, .un .not (t 140), some (137, false), []⟩, q 142 (.pick (t 137) (.const (.bool true)) (t 141))] false) (.cond (t 142) (.seq (.region 16 [q 2 (.asg 0 (.const (.bool false)) 4)] false) .ret) .skip))) (.seq (.region 17 [q 144 (.mov (t 0)), q 145 (.call 0 (.func 72) [(t 144)]), q 143 (.mov (t 145)), q 146 (.extract (t 143) 0), q 147 (.extract (t 143) 1), q 148 (.extract (t 143) 2), q 149 (.extract (t 143) 3), q 23 (.alloc 25), q 24 (.alloc 25), q 22 (.asg 0 (t 146) 2), ⟨none, .store 25 (t 23) (t 147), none, []⟩, ⟨none, .store 25 (t 24) (t 148), none, []⟩, q 25 (.asg 0 (t 149) 2)] false) (.seq (.region 18 [q 151 (.mov (t 22)), q 152 (.load 25 (t 23)), q 153 (.load 25 (t 24)), q 154 (.mov (t 25)), q 155 (.call 0 (.func 73) [(t 151), (t 152), (t 153), (t 154)]), q 150 (.mov (t 155)), q 156 (.extract (t 150) 0), q 157 (.extract (t 150) 1), q 158 (.extract (t 150) 2), q 26 (.alloc 25), q 27 (.alloc 25), ⟨none, .store 25 (t 26) (t 156), none, []⟩, ⟨none, .store 25 (t 27) (t 157), none, []⟩, q 28 (.asg 0 (t 158) 2)] false) (.seq (.seq (.region 19 [q 160 (.mov (t 22)), q 161 (.load 25 (t 23)), q 162 (.load 25 (t 24)), q 163 (.mov (t 25)), q 164 (.call 0 (.func 74) [(t 160), (t 161), (t 162), (t 163)]), q 159 (.mov (t 164)), q 165 (.extract (t 159) 0), q 166 (.extract (t 159) 1), q 167 (.extract (t 159) 2), q 29 (.alloc 25), q 30 (.alloc 25), ⟨none, .store 25 (t 29) (t 165), none, []⟩, ⟨none, .store 25 (t 30) (t 166), none, []⟩, q 31 (.asg 0 (t 167) 2)] false) (.seq (.region 20 [q 168 (.mov (t 28)), q 169 (.mov (t 31)), q 170 (.bin .neq 2 (t 168) (t 169)), q 171 (.mov (t 170)), ⟨some 172, .load 25 (t 26), some (171, false), []⟩, ⟨some 173, .load 25 (t 29), some (171, false), []⟩, ⟨some 174, .bin .neq 25 (t 172) (t 173), some (171, false), []⟩, q 175 (.pick (t 171) (.const (.bool true)) (t 174)), q 176 (.mov (t 175)), ⟨some 177, .load 25 (t 27), some (176, false), []⟩, ⟨some 178, .load 25 (t 30), some (176, false), []⟩, ⟨some 179, .bin .neq 25 (t 177) (t 178), some (176, false), []⟩, q 180 (.pick (t 176) (.const (.bool true)) (t 179))] false) (.cond (t 180) (.seq (.region 21 [q 2 (.asg 0 (.const (.bool false)) 4)] false) .ret) .skip))) (.seq (.region 22 [q 182 (.mov (t 0)), q 183 (.call 0 (.func 75) [(t 182)]), q 181 (.mov (t 183)), q 184 (.extract (t 181) 0), q 185 (.extract (t 181) 1), q 186 (.extract (t 181) 2), q 187 (.extract (t 181) 3), q 33 (.alloc 25), q 34 (.alloc 25), q 32 (.asg 0 (t 184) 2), ⟨none, .store 25 (t 33) (t 185), none, []⟩, ⟨none, .store 25 (t 34) (t 186), none, []⟩, q 35 (.asg 0 (t 187) 2)] false) (.seq (.region 23 [q 189 (.mov (t 32)), q 190 (.load 25 (t 33)), q 191 (.load 25 (t 34)), q 192 (.mov (t 35)), q 193 (.call 0 (.func 76) [(t 189), (t 190), (t 191), (t 192)]), q 188 (.mov (t 193)), q 194 (.extract (t 188) 0), q 195 (.extract (t 188) 1), q 36 (.asg 1 (t 194) 59), q 37 (.asg 0 (t 195) 2)] false) (.seq (.seq (.region 24 [q 197 (.mov (t 32)), q 198 (.load 25 (t 33)), q 199 (.load 25 (t 34)), q 200 (.mov (t 35)), q 201 (.call 0 (.func 77) [(t 197), (t 198), (t 199), (t 200)]), q 196 (.mov (t 201)), q 202 (.extract (t 196) 0), q 203 (.extract (t 196) 1), q 38 (.asg 1 (t 202) 59), q 39 (.asg 0 (t 203) 2)] false) (.seq (.region 25 [q 204 (.mov (t 37)), q 205 (.mov (t 39)), q 206 (.bin .neq 2 (t 204) (t 205)), q 207 (.mov (t 206)), ⟨some 208, .mov (t 36), some (207, false), []⟩, ⟨some 209, .mov (t 38), some (207, false), []⟩, ⟨some 210, .call 0 (.func 68) [(t 208), (t 209)], some (207, false), []⟩, ⟨some 211, .un .not (t 210), some (207, false), []⟩, q 212 (.pick (t 207) (.const (.bool true)) (t 211))] false) (.cond (t 212) (.seq (.region 26 [q 2 (.asg 0 (.const (.bool false)) 4)] false) .ret) .skip))) (.seq (.seq (.region 27 [q 213 (.mov (t 18)), q 214 (.bin .eql 2 (t 213) (.const (.int .i64 0)))] false) (.cond (t 214) (.seq (.region 28 [q 40 (.asg 0 (.const (.int .i64 1)) 3)] false) (.block 0 (.loop (.seq (.seq (.region 29 [q 215 (.mov (t 40)), q 216 (.mov (t 16)), q 217 (.blt 0 .len [(t 216)] [55]), q 218 (.bin .lss 3 (t 215) (t 217))] false) (.cond (t 218) .skip (.exit 0))) (.seq (.block 1 (.seq (.region 31 [q 222 (.mov (t 14)), q 223 (.mov (t 16)), q 224 (.mov (t 40)), ⟨some 225, .indexAddr 55 (t 223) (t 224), none, [1, 2]⟩, ⟨some 226, .load 25 (t 225), none, [3]⟩, q 227 (.mov (t 17)), q 228 (.mov (t 40)), ⟨some 229, .bin .sub 3 (t 228) (.const (.int .i64 1)), none, [6]⟩, ⟨some 230, .indexAddr 55 (t 227) (t 229), none, [5, 7]⟩, ⟨some 231, .load 25 (t 230), none, [8]⟩, ⟨some 232, .call 0 (.func 12) [(t 222), (t 226), (t 231)], none, [0, 4, 9]⟩, ⟨some 221, .mov (t 232), none, [10]⟩, ⟨some 233, .extract (t 221) 0, none, [11]⟩, ⟨some 234, .extract (t 221) 1, none, [11]⟩, q 41 (.alloc 25), ⟨none, .store 25 (t 41) (t 233), none, [14, 12, 10, 0, 1, 2, 3, 4, 5, 6, 7, 8, 9, 10, 11, 12, 14]⟩, ⟨some 42, .asg 0 (t 234) 2, none, [13, 15, 0, 1, 2, 3, 4, 5, 6, 7, 8, 9, 10, 11, 12, 13, 14, 15]⟩] true) (.seq (.region 32 [q 236 (.mov (t 14)), q 237 (.mov (t 16)), q 238 (.mov (t 40)), ⟨some 239, .bin .sub 3 (t 238) (.const (.int .i64 1)), none, [2]⟩, ⟨some 240, .indexAddr 55 (t 237) (t 239), none, [1, 3]⟩, ⟨some 241, .load 25 (t 240), none, [4]⟩, q 242 (.mov (t 17)), q 243 (.mov (t 40)), ⟨some 244, .indexAddr 55 (t 242) (t 243), none, [6, 7]⟩, ⟨some 245, .load 25 (t 244), none, [8]⟩, ⟨some 246, .call 0 (.func 12) [(t 236), (t 241), (t 245)], none, [0, 5, 9]⟩, ⟨some 235, .mov (t 246), none, [10]⟩, ⟨some 247, .extract (t 235) 0, none, [11]⟩, ⟨some 248, .extract (t 235) 1, none, [11]⟩, q 43 (.alloc 25), ⟨none, .store 25 (t 43) (t 247), none, [14, 12, 10, 0, 1, 2, 3, 4, 5, 6, 7, 8, 9, 10, 11, 12, 14]⟩, ⟨some 44, .asg 0 (t 248) 2, none, [13, 15, 0, 1, 2, 3, 4, 5, 6, 7, 8, 9, 10, 11, 12, 13, 14, 15]⟩] true) (.seq (.seq (.region 33 [q 249 (.mov (t 42)), q 250 (.bin .neq 2 (t 249) (.const (.int .i64 0))), q 251 (.mov (t 250)), ⟨some 252, .mov (t 44), some (251, false), []⟩, ⟨some 253, .bin .neq 2 (t 252) (.const (.int .i64 0)), some (251, false), []⟩, q 254 (.pick (t 251) (.const (.bool true)) (t 253))] false) (.cond (t 254) (.exit 1) .skip)) (.seq (.region 34 [q 256 (.mov (t 14)), q 257 (.load 25 (t 41)), q 258 (.load 25 (t 43)), q 259 (.call 0 (.func 78) [(t 256), (t 257), (t 258)]), q 255 (.mov (t 259)), q 260 (.extract (t 255) 0), q 261 (.extract (t 255) 1), q 45 (.alloc 25), ⟨none, .store 25 (t 45) (t 260), none, []⟩, q 46 (.asg 0 (t 261) 2)] false) (.seq (.region 35 [q 47 (.asg 0 (.const (.int .i64 1)) 2)] false) (.seq (.seq (.region 36 [q 262 (.mov (t 40)), q 263 (.bin .rem 3 (t 262) (.const (.int .i64 2))), q 264 (.bin .eql 3 (t 263) (.const (.int .i64 0)))] false) (.cond (t 264) (.region 37 [q 265 (.mov (t 14)), q 266 (.bin .sub 2 (t 265) (.const (.int .i64 1))), q 47 (.asg 0 (t 266) 2)] false) .skip)) (.seq (.region 38 [q 267 (.mov (t 46)), q 268 (.bin .neq 2 (t 267) (.const (.int .i64 0))), q 269 (.mov (t 268)), ⟨some 270, .load 25 (t 45), some (269, false), []⟩, ⟨some 271, .mov (t 47), some (269, false), []⟩, ⟨some 272, .conv 2 5 (t 271), some (269, false), []⟩, ⟨some 273, .build 25 [(0, (t 272))], some (269, false), []⟩, ⟨some 274, .bin .neq 25 (t 270) (t 273), some (269, false), []⟩, q 275 (.pick (t 269) (.const (.bool true)) (t 274))] false) (.cond (t 275) (.seq (.region 39 [q 2 (.asg 0 (.const (.bool false)) 4)] false) .ret) .skip))))))))) (.region 30 [q 219 (.mov (t 40)), q 220 (.bin .add 3 (t 219) (.const (.int .i64 1))), q 40 (.asg 0 (t 220) 3)] false)))))) .skip)) (.seq (.seq (.region 40 [q 276 (.mov (t 7)), q 277 (.bin .neq 2 (t 276) (.const (.int .i64 0)))] false) (.cond (t 277) (.seq (.region 41 [q 278 (.mov (t 6)), q 279 (.blt 0 .len [(t 278)] [55]), q 280 (.bin .eql 3 (t 279) (.const (.int .i64 0))), q 2 (.asg 0 (t 280) 4)] false) .ret) .skip)) (.seq (.seq (.region 42 [q 281 (.mov (t 10)), q 282 (.blt 0 .len [(t 281)] [59]), q 283 (.mov (t 6)), q 284 (.blt 0 .len [(t 283)] [55]), q 285 (.bin .neq 3 (t 282) (t 284)), q 286 (.mov (t 285)), ⟨some 287, .mov (t 6), some (286, false), []⟩, ⟨some 288, .blt 0 .len [(t 287)] [55], some (286, false), []⟩, ⟨some 289, .bin .gtr 3 (t 288) (.const (.int .i64 30)), some (286, false), []⟩, q 290 (.pick (t 286) (.const (.bool true)) (t 289))] false) (.cond (t 290) (.seq (.region 43 [q 291 (.mov (t 10)), q 292 (.blt 0 .len [(t 291)] [59]), q 293 (.mov (t 6)), q 294 (.blt 0 .len [(t 293)] [55]), q 295 (.bin .eql 3 (t 292) (t 294)), q 2 (.asg 0 (t 295) 4)] false) .ret) .skip)) (.seq (.region 44 [q 297 (.mov (t 3)), q 298 (.mov (t 6)), q 299 (.call 0 (.func 70) [(t 297), (t 298)]), q 296 (.mov (t 299)), q 300 (.extract (t 296) 0), q 301 (.extract (t 296) 1), q 302 (.extract (t 296) 2), q 48 (.asg 1 (t 300) 55), q 49 (.asg 1 (t 301) 55), q 50 (.asg 0 (t 302) 2)] false) (.seq (.seq (.region 45 [q 303 (.mov (t 50)), q 304 (.bin .neq 2 (t 303) (.const (.int .i64 0)))] false) (.cond (t 304) (.seq (.region 46 [q 2 (.asg 0 (.const (.bool false)) 4)] false) .ret) .skip)) (.seq (.region 47 [q 306 (.mov (t 3)), q 307 (.load 25 (t 4)), q 308 (.mov (t 49)), q 309 (.mov (t 49)), ⟨some 310, .blt 0 .len [(t 309)] [55], none, [3]⟩, ⟨some 311, .bin .sub 3 (t 310) (.const (.int .i64 1)), none, [4]⟩, ⟨some 312, .indexAddr 55 (t 308) (t 311), none, [2, 5]⟩, ⟨some 313, .load 25 (t 312), none, [6]⟩, ⟨some 314, .call 0 (.func 12) [(t 306), (t 307), (t 313)], none, [0, 1, 7]⟩, ⟨some 305, .mov (t 314), none, [8]⟩, ⟨some 315, .extract (t 305) 0, none, [9]⟩, ⟨some 316, .extract (t 305) 1, none, [9]⟩, q 51 (.alloc 25), ⟨none, .store 25 (t 51) (t 315), none, [12, 10, 8, 0, 1, 2, 3, 4, 5, 6, 7, 8, 9, 10, 12]⟩, ⟨some 52, .asg 0 (t 316) 2, none, [11, 13, 0, 1, 2, 3, 4, 5, 6, 7, 8, 9, 10, 11, 12, 13]⟩] true) (.seq (.region 48 [q 318 (.mov (t 3)), q 319 (.load 25 (t 5)), q 320 (.mov (t 48)), q 321 (.mov (t 48)), ⟨some 322, .blt 0 .len [(t 321)] [55], none, [3]⟩, ⟨some 323, .bin .sub 3 (t 322) (.const (.int .i64 1)), none, [4]⟩, ⟨some 324, .indexAddr 55 (t 320) (t 323), none, [2, 5]⟩, ⟨some 325, .load 25 (t 324), none, [6]⟩, ⟨some 326, .call 0 (.func 12) [(t 318), (t 319), (t 325)], none, [0, 1, 7]⟩, ⟨some 317, .mov (t 326), none, [8]⟩, ⟨some 327, .extract (t 317) 0, none, [9]⟩, ⟨some 328, .extract (t 317) 1, none, [9]⟩, q 53 (.alloc 25), ⟨none, .store 25 (t 53) (t 327), none, [12, 10, 8, 0, 1, 2, 3, 4, 5, 6, 7, 8, 9, 10, 12]⟩, ⟨some 54, .asg 0 (t 328) 2, none, [11, 13, 0, 1, 2, 3, 4, 5, 6, 7, 8, 9, 10, 11, 12, 13]⟩] true) (.seq (.region 49 [q 329 (.mov (t 52)), q 330 (.bin .neq 2 (t 329) (.const (.int .i64 0))), q 331 (.mov (t 330)), ⟨some 332, .mov (t 54), some (331, false), []⟩, ⟨some 333, .bin .neq 2 (t 332) (.const (.int .i64 0)), some (331, false), []⟩, q 334 (.pick (t 331) (.const (.bool true)) (t 333)), q 335 (.mov (t 334)), ⟨some 336, .load 25 (t 51), some (335, false), []⟩, ⟨some 337, .load 25 (t 53), some (335, false), []⟩, ⟨some 338, .bin .eql 25 (t 336) (t 337), some (335, false), []⟩, q 339 (.pick (t 335) (.const (.bool true)) (t 338)), q 2 (.asg 0 (t 339) 4)] false) .ret))))))))))))))))))))))))
def laws_FnFractions_L : Live := [(0, [0]), (1, [0]), (2, []), (3, [0]), (4, [0, 3, 4, 5]), (5, [0, 3, 4, 5, 6, 7]), (6, [0, 3, 4, 5, 6, 7, 8, 9]), (7, []), (8, [0, 3, 4, 5, 6, 7]), (9, [0, 3, 4, 5, 6, 7, 10, 11]), (10, [0, 3, 4, 5, 6, 7, 10, 11, 12, 13]), (11, []), (12, [0, 3, 4, 5, 6, 7, 10]), (13, [0, 3, 4, 5, 6, 7, 10, 14, 15]), (14, [0, 3, 4, 5, 6, 7, 10, 14, 15, 16, 17, 18]), (15, [0, 3, 4, 5, 6, 7, 10, 14, 16, 17, 18, 19, 20, 21]), (16, []), (17, [0, 3, 4, 5, 6, 7, 10, 14, 16, 17, 18]), (18, [0, 3, 4, 5, 6, 7, 10, 14, 16, 17, 18, 22, 23, 24, 25]), (19, [0, 3, 4, 5, 6, 7, 10, 14, 16, 17, 18, 22, 23, 24, 25, 26, 27, 28]), (20, [0, 3, 4, 5, 6, 7, 10, 14, 16, 17, 18, 26, 27, 28, 29, 30, 31]), (21, []), (22, [0, 3, 4, 5, 6, 7, 10, 14, 16, 17, 18]), (23, [3, 4, 5, 6, 7, 10, 14, 16, 17, 18, 32, 33, 34, 35]), (24, [3, 4, 5, 6, 7, 10, 14, 16, 17, 18, 32, 33, 34, 35, 36, 37]), (25, [3, 4, 5, 6, 7, 10, 14, 16, 17, 18, 36, 37, 38, 39]), (26, []), (27, [3, 4, 5, 6, 7, 10, 14, 16, 17, 18]), (28, [3, 4, 5, 6, 7, 10, 14, 16, 17]), (29, [3, 4, 5, 6, 7, 10, 14, 16, 17, 40]), (30, [3, 4, 5, 6, 7, 10, 14, 16, 17, 40]), (31, [3, 4, 5, 6, 7, 10, 14, 16, 17, 40]), (32, [3, 4, 5, 6, 7, 10, 14, 16, 17, 40, 41, 42]), (33, [3, 4, 5, 6, 7, 10, 14, 16, 17, 40, 41, 42, 43, 44]), (34, [3, 4, 5, 6, 7, 10, 14, 16, 17, 40, 41, 43]), (35, [3, 4, 5, 6, 7, 10, 14, 16, 17, 40, 45, 46]), (36, [3, 4, 5, 6, 7, 10, 14, 16, 17, 40, 45, 46, 47]), (37, [3, 4, 5, 6, 7, 10, 14, 16, 17, 40, 45, 46]), (38, [3, 4, 5, 6, 7, 10, 14, 16, 17, 40, 45, 46, 47]), (39, []), (40, [3, 4, 5, 6, 7, 10]), (41, [6]), (42, [3, 4, 5, 6, 10]), (43, [6, 10]), (44, [3, 4, 5, 6]), (45, [3, 4, 5, 48, 49, 50]), (46, []), (47, [3, 4, 5, 48, 49]), (48, [3, 5, 48, 51, 52]), (49, [51, 52, 53, 54]), (100056, [0, 56]), (100085, [0, 3, 4, 5, 6, 7, 85]), (100108, [0, 3, 4, 5, 6, 7, 10, 108]), (100142, [0, 3, 4, 5, 6, 7, 10, 14, 16, 17, 18, 142]), (100180, [0, 3, 4, 5, 6, 7, 10, 14, 16, 17, 18, 180]), (100212, [3, 4, 5, 6, 7, 10, 14, 16, 17, 18, 212]), (100214, [3, 4, 5, 6, 7, 10, 14, 16, 17, 214]), (100218, [3, 4, 5, 6, 7, 10, 14, 16, 17, 40, 218]), (100254, [3, 4, 5, 6, 7, 10, 14, 16, 17, 40, 41, 43, 254]), (100264, [3, 4, 5, 6, 7, 10, 14, 16, 17, 40, 45, 46, 47, 264]), (100275, [3, 4, 5, 6, 7, 10, 14, 16, 17, 40, 275]), (100277, [3, 4, 5, 6, 10, 277]), (100290, [3, 4, 5, 6, 10, 290]), (100304, [3, 4, 5, 48, 49, 304])]
noncomputable def laws_FnFractions_l1 (r48 : ((List (Vec Int 64)) × (List (Vec Int 64)) × Int)) (r46 : (Int × (List (Vec Int 64)))) (x595 : Int) : Option (Int ⊕ (Unit ⊕ Bool)) :=
  (if (decide (x595 < (r48.1.length : Int))) then (Option.bind (α := (Unit ⊕ Bool)) ((ifp (0 ≤ x595 ∧ x595 < ((r48.1.length : Nat) : Int)) ((ifp (0 ≤ IntKind.i64.wrap (x595 - 1) ∧ IntKind.i64.wrap (x595 - 1) < ((r48.2.1.length : Nat) : Int)) ((Option.bind (impl_MultiplyPolys r46.1 (rd r48.1 x595.toNat) ((rd r48.2.1 (IntKind.i64.wrap (x595 - 1)).toNat))) fun r784 => (ifp (0 ≤ IntKind.i64.wrap (x595 - 1) ∧ IntKind.i64.wrap (x595 - 1) < ((r48.1.length : Nat) : Int)) ((ifp (0 ≤ x595 ∧ x595 < ((r48.2.1.length : Nat) : Int)) ((Option.bind (impl_MultiplyPolys r46.1 ((rd r48.1 (IntKind.i64.wrap (x595 - 1)).toNat)) (rd r48.2.1 x595.toNat)) fun r798 => (Option.bind (α := Bool) ((if (r784.2 != 0) then (some true) else (some (r798.2 != 0)))) fun x802 => (if x802 then (some ((.inl ()))) else (Option.bind (impl_SubtractPolys r46.1 r784.1 r798.1) fun r810 => (Option.bind (α := Int) ((if ((Int.tmod x595 2) == 0) then (some (IntKind.i64.wrap (r46.1 - 1))) else (some 1))) fun x814 => (Option.bind (α := Bool) ((if (r810.2 != 0) then (some true) else (some ((!decide (r810.1 = ((vset (vrep 64 (0 : Int)) 0 (IntKind.u8.wrap x814))))))))) fun x821 => (if x821 then (some (.inr false)) else (some ((.inl ())))))))))))))))))))) fun z => match z with | .inl _ => (some (.inl (IntKind.i64.wrap (x595 + 1)))) | .inr r828 => (some (.inr (.inr r828)))) else (some (.inr (((.inl ()))))))
noncomputable def laws_FnFractions (a0 : (List Int)) : Option Bool :=
  (Option.bind (laws_big a0) fun r1 => (if r1 then (some true) else (Option.bind (spec_DrawContinuedFraction a0) fun r4 => (Option.bind (impl_ContinuedFraction r4.1 r4.2.1 r4.2.2) fun r10 => (Option.bind (spec_ContinuedFraction r4.1 r4.2.1 r4.2.2) fun r14 => (Option.bind (α := Bool) ((if (r10.2 != r14.2) then (some true) else (Option.bind (laws_polys9 r10.1 r14.1) fun r24 => (some (!r24))))) fun x19 => (if x19 then (some false) else (Option.bind (impl_DegreesOfPartials r4.1 r4.2.1 r4.2.2) fun r29 => (Option.bind (spec_DegreesOfPartials r4.1 r4.2.1 r4.2.2) fun r33 => (Option.bind (α := Bool) ((if (r29.2 != r33.2) then (some true) else (Option.bind (laws_likeInts r29.1 r33.1) fun r43 => (some (!r43))))) fun x38 => (if x38 then (some false) else (Option.bind (spec_DrawConvergentsOf a0) fun r46 => (Option.bind (impl_ConvergentsOf r46.1 r46.2) fun r48 => (Option.bind (spec_ConvergentsOf r46.1 r46.2) fun r50 => (Option.bind (α := Bool) ((if (r48.2.2 != r50.2.2) then (some true) else (Option.bind (laws_polys9 r48.1 r50.1) fun r63 => (if (!r63) then (some true) else (Option.bind (laws_polys9 r48.2.1 r50.2.1) fun r66 => (some (!r66))))))) fun x58 => (if x58 then (some false) else (Option.bind (spec_DrawBestApproximation a0) fun r69 => (Option.bind (impl_BestApproximation r69.1 r69.2.1 r69.2.2.1 r69.2.2.2) fun r75 => (Option.bind (spec_BestApproximation r69.1 r69.2.1 r69.2.2.1 r69.2.2.2) fun r81 => (Option.bind (α := Bool) ((if (r75.2.2 != r81.2.2) then (some true) else (if (!decide (r75.1 = r81.1)) then (some true) else (some ((!decide (r75.2.1 = r81.2.1))))))) fun x91 => (if x91 then (some false) else (Option.bind (spec_DrawDigitsOfQuotient a0) fun r102 => (Option.bind (impl_DigitsOfQuotient r102.1 r102.2.1 r102.2.2.1 r102.2.2.2) fun r108 => (Option.bind (spec_DigitsOfQuotient r102.1 r102.2.1 r102.2.2.1 r102.2.2.2) fun r112 => (Option.bind (α := Bool) ((if (r108.2 != r112.2) then (some true) else (Option.bind (laws_likeInts r108.1 r112.1) fun r122 => (some (!r122))))) fun x117 => (if x117 then (some false) else (Option.bind (α := (Unit ⊕ Bool)) ((if (r48.2.2 == 0) then (loopM (fun s : Int => laws_FnFractions_l1 r48 r46 s) 1) else (some ((.inl ()))))) fun z => match z with | .inl _ => (if (r10.2 != 0) then (some (((r10.1.length : Int) == 0))) else (Option.bind (α := Bool) ((if ((r29.1.length : Int) != (r10.1.length : Int)) then (some true) else (some ((decide ((r10.1.length : Int) > 30)))))) fun x832 => (if x832 then (some (((r29.1.length : Int) == (r10.1.length : Int)))) else (Option.bind (impl_ConvergentsOf r4.1 r10.1) fun r838 => (if (r838.2.2 != 0) then (some false) else (ifp (0 ≤ IntKind.i64.wrap ((r838.2.1.length : Int) - 1) ∧ IntKind.i64.wrap ((r838.2.1.length : Int) - 1) < ((r838.2.1.length : Nat) : Int)) ((letp ((rd r838.2.1 (IntKind.i64.wrap ((r838.2.1.length : Int) - 1)).toNat)) fun x852 => (Option.bind (impl_MultiplyPolys r4.1 r4.2.1 x852) fun r854 => (ifp (0 ≤ IntKind.i64.wrap ((r838.1.length : Int) - 1) ∧ IntKind.i64.wrap ((r838.1.length : Int) - 1) < ((r838.1.length : Nat) : Int)) ((letp ((rd r838.1 (IntKind.i64.wrap ((r838.1.length : Int) - 1)).toNat)) fun x868 => (Option.bind (impl_MultiplyPolys r4.1 r4.2.2 x868) fun r870 => (if (r854.2 != 0) then (some true) else (if (r870.2 != 0) then (some true) else (some ((decide (r854.1 = r870.1))))))))))))))))))) | .inr r877 => (some r877))))))))))))))))))))))))))))
theorem laws_FnFractions_ok (a0 : (List Int)) (r : Bool) (h : laws_FnFractions a0 = some r) : Den Try.prog 8 [(eSu8 a0)] { r := (.bool r) } := by
  refine den_of (rs := [(.bool r)]) (ac := laws_FnFractions_c) (L := laws_FnFractions_L) (n := 340) (m := [(6, 1), (8, 1), (10, 1), (12, 1), (15, 1), (16, 1), (17, 1), (19, 1), (20, 1), (36, 1), (38, 1), (48, 1), (49, 1)]) (c := Try.f8.body.getD .skip) good Try.func8 (by kernel_rfl) (by kernel_rfl) Try.ntmps8 rfl rfl (by kernel_rfl) rfl rfl ?_
  refine a_st (σ' := ⟨[(0, (eSu8 a0))], []⟩) (by kernel_rfl) ?_
  unfold laws_FnFractions_c
  refine sr (vp (.bool false) rfl (nx ⟨[(0, (eSu8 a0))], []⟩ (by kernel_rfl) (a_seq (sr (vp (eSu8 a0) rfl ?_)))))
  obtain ⟨r1, hr2, h⟩ := bind_some h
  refine a_call (args := [(eSu8 a0)]) (u := []) (r := (.bool r1)) rfl rfl (laws_big_ok a0 r1 hr2) rfl (nx ⟨[(0, (eSu8 a0)), (56, (.bool r1))], []⟩ (by kernel_rfl) ?_)
  cases hb3 : r1
  · have h := ite_f hb3 h
    refine a_cond_f rfl (a_skip (a_next (σ' := ⟨[(0, (eSu8 a0))], []⟩) (by kernel_rfl) (sr (vp (eSu8 a0) rfl ?_))))
    obtain ⟨r4, hr5, h⟩ := bind_some h
    refine a_call (args := [(eSu8 a0)]) (u := []) (r := (.tuple [(i6 r4.1), (eA64u8 r4.2.1), (eA64u8 r4.2.2)])) rfl rfl (spec_DrawContinuedFraction_ok a0 r4 hr5) rfl (vp (.tuple [(i6 r4.1), (eA64u8 r4.2.1), (eA64u8 r4.2.2)]) rfl (vb (i6 r4.1) rfl rfl (vb (eA64u8 r4.2.1) rfl rfl (vb (eA64u8 r4.2.2) rfl rfl (vo 1400 (eA64u8 ((vrep 64 (0 : Int)))) rfl rfl (vo 1500 (eA64u8 ((vrep 64 (0 : Int)))) rfl rfl (vp (i6 r4.1) rfl (vs (eA64u8 r4.2.1) rfl rfl (fun _ => rfl) rfl rfl rfl rfl rfl rfl (vs (eA64u8 r4.2.2) rfl rfl (fun _ => rfl) rfl rfl rfl rfl rfl rfl ?_)))))))))
    refine nx ⟨[(0, (eSu8 a0)), (3, (i6 r4.1)), (4, (ow 4)), (5, (ow 5))], [(4, (bk (eA64u8 r4.2.1))), (5, (bk (eA64u8 r4.2.2)))]⟩ (by kernel_rfl) (sr (vp (i6 r4.1) rfl (vl (eA64u8 r4.2.1) rfl rfl rfl rfl rfl rfl (vl (eA64u8 r4.2.2) rfl rfl rfl rfl rfl rfl ?_))))
    obtain ⟨r10, hr11, h⟩ := bind_some h
    refine a_call (args := [(i6 r4.1), (eA64u8 r4.2.1), (eA64u8 r4.2.2)]) (u := []) (r := (.tuple [(eSA64u8 r10.1), (i6 r10.2)])) rfl rfl (impl_ContinuedFraction_ok r4.1 r4.2.1 r4.2.2 r10 hr11) rfl (vp (.tuple [(eSA64u8 r10.1), (i6 r10.2)]) rfl (vb (eSA64u8 r10.1) rfl rfl (vb (i6 r10.2) rfl rfl (vp (eSA64u8 r10.1) rfl (vp (i6 r10.2) rfl (nx ⟨[(0, (eSu8 a0)), (3, (i6 r4.1)), (4, (ow 4)), (5, (ow 5)), (6, (eSA64u8 r10.1)), (7, (i6 r10.2))], [(4, (bk (eA64u8 r4.2.1))), (5, (bk (eA64u8 r4.2.2)))]⟩ (by kernel_rfl) (a_seq (sr (vp (i6 r4.1) rfl ?_)))))))))
    refine vl (eA64u8 r4.2.1) rfl rfl rfl rfl rfl rfl (vl (eA64u8 r4.2.2) rfl rfl rfl rfl rfl rfl ?_)
    obtain ⟨r14, hr15, h⟩ := bind_some h
    refine a_call (args := [(i6 r4.1), (eA64u8 r4.2.1), (eA64u8 r4.2.2)]) (u := []) (r := (.tuple [(eSA64u8 r14.1), (i6 r14.2)])) rfl rfl (spec_ContinuedFraction_ok r4.1 r4.2.1 r4.2.2 r14 hr15) rfl (vp (.tuple [(eSA64u8 r14.1), (i6 r14.2)]) rfl (vb (eSA64u8 r14.1) rfl rfl (vb (i6 r14.2) rfl rfl (vp (eSA64u8 r14.1) rfl (vp (i6 r14.2) rfl (nx ⟨[(0, (eSu8 a0)), (3, (i6 r4.1)), (4, (ow 4)), (5, (ow 5)), (6, (eSA64u8 r10.1)), (7, (i6 r10.2)), (8, (eSA64u8 r14.1)), (9, (i6 r14.2))], [(4, (bk (eA64u8 r4.2.1))), (5, (bk (eA64u8 r4.2.2)))]⟩ (by kernel_rfl) ?_))))))
    obtain ⟨y20, hy21, hk22⟩ := bind_some h
    clear h
    refine a_join (emb := fun (s : Bool) => ⟨[(0, (eSu8 a0)), (3, (i6 r4.1)), (4, (ow 4)), (5, (ow 5)), (6, (eSA64u8 r10.1)), (7, (i6 r10.2)), (85, (.bool s))], [(4, (bk (eA64u8 r4.2.1))), (5, (bk (eA64u8 r4.2.2)))]⟩) (pre := fun s => s = y20) ?_ ?_
    · rintro x19 rfl
      have h := hk22
      refine a_st (σ' := ⟨[(0, (eSu8 a0)), (3, (i6 r4.1)), (4, (ow 4)), (5, (ow 5)), (6, (eSA64u8 r10.1)), (7, (i6 r10.2)), (85, (.bool x19))], [(4, (bk (eA64u8 r4.2.1))), (5, (bk (eA64u8 r4.2.2)))]⟩) (by kernel_rfl) ?_
      cases hb26 : x19
      · have h := ite_f hb26 h
        refine a_cond_f rfl (a_skip (a_next (σ' := ⟨[(0, (eSu8 a0)), (3, (i6 r4.1)), (4, (ow 4)), (5, (ow 5)), (6, (eSA64u8 r10.1)), (7, (i6 r10.2))], [(4, (bk (eA64u8 r4.2.1))), (5, (bk (eA64u8 r4.2.2)))]⟩) (by kernel_rfl) (sr (vp (i6 r4.1) rfl (vl (eA64u8 r4.2.1) rfl rfl rfl rfl rfl rfl (vl (eA64u8 r4.2.2) rfl rfl rfl rfl rfl rfl ?_))))))
        obtain ⟨r29, hr30, h⟩ := bind_some h
        refine a_call (args := [(i6 r4.1), (eA64u8 r4.2.1), (eA64u8 r4.2.2)]) (u := []) (r := (.tuple [(eSi64 r29.1), (i6 r29.2)])) rfl rfl (impl_DegreesOfPartials_ok r4.1 r4.2.1 r4.2.2 r29 hr30) rfl (vp (.tuple [(eSi64 r29.1), (i6 r29.2)]) rfl (vb (eSi64 r29.1) rfl rfl (vb (i6 r29.2) rfl rfl (vp (eSi64 r29.1) rfl (vp (i6 r29.2) rfl (nx ⟨[(0, (eSu8 a0)), (3, (i6 r4.1)), (4, (ow 4)), (5, (ow 5)), (6, (eSA64u8 r10.1)), (7, (i6 r10.2)), (10, (eSi64 r29.1)), (11, (i6 r29.2))], [(4, (bk (eA64u8 r4.2.1))), (5, (bk (eA64u8 r4.2.2)))]⟩ (by kernel_rfl) (a_seq (sr (vp (i6 r4.1) rfl ?_)))))))))
        refine vl (eA64u8 r4.2.1) rfl rfl rfl rfl rfl rfl (vl (eA64u8 r4.2.2) rfl rfl rfl rfl rfl rfl ?_)
        obtain ⟨r33, hr34, h⟩ := bind_some h
        refine a_call (args := [(i6 r4.1), (eA64u8 r4.2.1), (eA64u8 r4.2.2)]) (u := []) (r := (.tuple [(eSi64 r33.1), (i6 r33.2)])) rfl rfl (spec_DegreesOfPartials_ok r4.1 r4.2.1 r4.2.2 r33 hr34) rfl (vp (.tuple [(eSi64 r33.1), (i6 r33.2)]) rfl (vb (eSi64 r33.1) rfl rfl (vb (i6 r33.2) rfl rfl (vp (eSi64 r33.1) rfl (vp (i6 r33.2) rfl (nx ⟨[(0, (eSu8 a0)), (3, (i6 r4.1)), (4, (ow 4)), (5, (ow 5)), (6, (eSA64u8 r10.1)), (7, (i6 r10.2)), (10, (eSi64 r29.1)), (11, (i6 r29.2)), (12, (eSi64 r33.1)), (13, (i6 r33.2))], [(4, (bk (eA64u8 r4.2.1))), (5, (bk (eA64u8 r4.2.2)))]⟩ (by kernel_rfl) ?_))))))
        obtain ⟨y39, hy40, hk41⟩ := bind_some h
        clear h
        refine a_join (emb := fun (s : Bool) => ⟨[(0, (eSu8 a0)), (3, (i6 r4.1)), (4, (ow 4)), (5, (ow 5)), (6, (eSA64u8 r10.1)), (7, (i6 r10.2)), (10, (eSi64 r29.1)), (108, (.bool s))], [(4, (bk (eA64u8 r4.2.1))), (5, (bk (eA64u8 r4.2.2)))]⟩) (pre := fun s => s = y39) ?_ ?_
        · rintro x38 rfl
          have h := hk41
          refine a_st (σ' := ⟨[(0, (eSu8 a0)), (3, (i6 r4.1)), (4, (ow 4)), (5, (ow 5)), (6, (eSA64u8 r10.1)), (7, (i6 r10.2)), (10, (eSi64 r29.1)), (108, (.bool x38))], [(4, (bk (eA64u8 r4.2.1))), (5, (bk (eA64u8 r4.2.2)))]⟩) (by kernel_rfl) ?_
          cases hb45 : x38
          · have h := ite_f hb45 h
            refine a_cond_f rfl (a_skip (a_next (σ' := ⟨[(0, (eSu8 a0)), (3, (i6 r4.1)), (4, (ow 4)), (5, (ow 5)), (6, (eSA64u8 r10.1)), (7, (i6 r10.2)), (10, (eSi64 r29.1))], [(4, (bk (eA64u8 r4.2.1))), (5, (bk (eA64u8 r4.2.2)))]⟩) (by kernel_rfl) (sr (vp (eSu8 a0) rfl ?_))))
            obtain ⟨r46, hr47, h⟩ := bind_some h
            refine a_call (args := [(eSu8 a0)]) (u := []) (r := (.tuple [(i6 r46.1), (eSA64u8 r46.2)])) rfl rfl (spec_DrawConvergentsOf_ok a0 r46 hr47) rfl (vp (.tuple [(i6 r46.1), (eSA64u8 r46.2)]) rfl (vb (i6 r46.1) rfl rfl (vb (eSA64u8 r46.2) rfl rfl (vp (i6 r46.1) rfl (vp (eSA64u8 r46.2) rfl (nx ⟨[(0, (eSu8 a0)), (3, (i6 r4.1)), (4, (ow 4)), (5, (ow 5)), (6, (eSA64u8 r10.1)), (7, (i6 r10.2)), (10, (eSi64 r29.1)), (14, (i6 r46.1)), (15, (eSA64u8 r46.2))], [(4, (bk (eA64u8 r4.2.1))), (5, (bk (eA64u8 r4.2.2)))]⟩ (by kernel_rfl) (sr (vp (i6 r46.1) rfl (vp (eSA64u8 r46.2) rfl ?_)))))))))
            obtain ⟨r48, hr49, h⟩ := bind_some h
            refine a_call (args := [(i6 r46.1), (eSA64u8 r46.2)]) (u := []) (r := (.tuple [(eSA64u8 r48.1), (eSA64u8 r48.2.1), (i6 r48.2.2)])) rfl rfl (impl_ConvergentsOf_ok r46.1 r46.2 r48 hr49) rfl (vp (.tuple [(eSA64u8 r48.1), (eSA64u8 r48.2.1), (i6 r48.2.2)]) rfl (vb (eSA64u8 r48.1) rfl rfl (vb (eSA64u8 r48.2.1) rfl rfl (vb (i6 r48.2.2) rfl rfl (vp (eSA64u8 r48.1) rfl (vp (eSA64u8 r48.2.1) rfl (vp (i6 r48.2.2) rfl (nx ⟨[(0, (eSu8 a0)), (3, (i6 r4.1)), (4, (ow 4)), (5, (ow 5)), (6, (eSA64u8 r10.1)), (7, (i6 r10.2)), (10, (eSi64 r29.1)), (14, (i6 r46.1)), (15, (eSA64u8 r46.2)), (16, (eSA64u8 r48.1)), (17, (eSA64u8 r48.2.1)), (18, (i6 r48.2.2))], [(4, (bk (eA64u8 r4.2.1))), (5, (bk (eA64u8 r4.2.2)))]⟩ (by kernel_rfl) (a_seq ?_)))))))))
            refine sr (vp (i6 r46.1) rfl (vp (eSA64u8 r46.2) rfl ?_))
            obtain ⟨r50, hr51, h⟩ := bind_some h
            refine a_call (args := [(i6 r46.1), (eSA64u8 r46.2)]) (u := []) (r := (.tuple [(eSA64u8 r50.1), (eSA64u8 r50.2.1), (i6 r50.2.2)])) rfl rfl (spec_ConvergentsOf_ok r46.1 r46.2 r50 hr51) rfl (vp (.tuple [(eSA64u8 r50.1), (eSA64u8 r50.2.1), (i6 r50.2.2)]) rfl (vb (eSA64u8 r50.1) rfl rfl (vb (eSA64u8 r50.2.1) rfl rfl (vb (i6 r50.2.2) rfl rfl (vp (eSA64u8 r50.1) rfl (vp (eSA64u8 r50.2.1) rfl (vp (i6 r50.2.2) rfl (nx ⟨[(0, (eSu8 a0)), (3, (i6 r4.1)), (4, (ow 4)), (5, (ow 5)), (6, (eSA64u8 r10.1)), (7, (i6 r10.2)), (10, (eSi64 r29.1)), (14, (i6 r46.1)), (16, (eSA64u8 r48.1)), (17, (eSA64u8 r48.2.1)), (18, (i6 r48.2.2)), (19, (eSA64u8 r50.1)), (20, (eSA64u8 r50.2.1)), (21, (i6 r50.2.2))], [(4, (bk (eA64u8 r4.2.1))), (5, (bk (eA64u8 r4.2.2)))]⟩ (by kernel_rfl) ?_))))))))
            obtain ⟨y59, hy60, hk61⟩ := bind_some h
            clear h
            refine a_join (emb := fun (s : Bool) => ⟨[(0, (eSu8 a0)), (3, (i6 r4.1)), (4, (ow 4)), (5, (ow 5)), (6, (eSA64u8 r10.1)), (7, (i6 r10.2)), (10, (eSi64 r29.1)), (14, (i6 r46.1)), (16, (eSA64u8 r48.1)), (17, (eSA64u8 r48.2.1)), (18, (i6 r48.2.2)), (142, (.bool s))], [(4, (bk (eA64u8 r4.2.1))), (5, (bk (eA64u8 r4.2.2)))]⟩) (pre := fun s => s = y59) ?_ ?_
            · rintro x58 rfl
              have h := hk61
              refine a_st (σ' := ⟨[(0, (eSu8 a0)), (3, (i6 r4.1)), (4, (ow 4)), (5, (ow 5)), (6, (eSA64u8 r10.1)), (7, (i6 r10.2)), (10, (eSi64 r29.1)), (14, (i6 r46.1)), (16, (eSA64u8 r48.1)), (17, (eSA64u8 r48.2.1)), (18, (i6 r48.2.2)), (142, (.bool x58))], [(4, (bk (eA64u8 r4.2.1))), (5, (bk (eA64u8 r4.2.2)))]⟩) (by kernel_rfl) ?_
              cases hb68 : x58
              · have h := ite_f hb68 h
                refine a_cond_f rfl (a_skip (a_next (σ' := ⟨[(0, (eSu8 a0)), (3, (i6 r4.1)), (4, (ow 4)), (5, (ow 5)), (6, (eSA64u8 r10.1)), (7, (i6 r10.2)), (10, (eSi64 r29.1)), (14, (i6 r46.1)), (16, (eSA64u8 r48.1)), (17, (eSA64u8 r48.2.1)), (18, (i6 r48.2.2))], [(4, (bk (eA64u8 r4.2.1))), (5, (bk (eA64u8 r4.2.2)))]⟩) (by kernel_rfl) (sr (vp (eSu8 a0) rfl ?_))))
                obtain ⟨r69, hr70, h⟩ := bind_some h
                refine a_call (args := [(eSu8 a0)]) (u := []) (r := (.tuple [(i6 r69.1), (eA64u8 r69.2.1), (eA64u8 r69.2.2.1), (i6 r69.2.2.2)])) rfl rfl (spec_DrawBestApproximation_ok a0 r69 hr70) rfl (vp (.tuple [(i6 r69.1), (eA64u8 r69.2.1), (eA64u8 r69.2.2.1), (i6 r69.2.2.2)]) rfl (vb (i6 r69.1) rfl rfl (vb (eA64u8 r69.2.1) rfl rfl (vb (eA64u8 r69.2.2.1) rfl rfl (vb (i6 r69.2.2.2) rfl rfl (vo 3300 (eA64u8 ((vrep 64 (0 : Int)))) rfl rfl (vo 3400 (eA64u8 ((vrep 64 (0 : Int)))) rfl rfl (vp (i6 r69.1) rfl (vs (eA64u8 r69.2.1) rfl rfl (fun _ => rfl) rfl rfl rfl rfl rfl rfl ?_)))))))))
                refine vs (eA64u8 r69.2.2.1) rfl rfl (fun _ => rfl) rfl rfl rfl rfl rfl rfl (vp (i6 r69.2.2.2) rfl (nx ⟨[(0, (eSu8 a0)), (3, (i6 r4.1)), (4, (ow 4)), (5, (ow 5)), (6, (eSA64u8 r10.1)), (7, (i6 r10.2)), (10, (eSi64 r29.1)), (14, (i6 r46.1)), (16, (eSA64u8 r48.1)), (17, (eSA64u8 r48.2.1)), (18, (i6 r48.2.2)), (22, (i6 r69.1)), (23, (ow 23)), (24, (ow 24)), (25, (i6 r69.2.2.2))], [(4, (bk (eA64u8 r4.2.1))), (5, (bk (eA64u8 r4.2.2))), (23, (bk (eA64u8 r69.2.1))), (24, (bk (eA64u8 r69.2.2.1)))]⟩ (by kernel_rfl) (sr (vp (i6 r69.1) rfl (vl (eA64u8 r69.2.1) rfl rfl rfl rfl rfl rfl (vl (eA64u8 r69.2.2.1) rfl rfl rfl rfl rfl rfl (vp (i6 r69.2.2.2) rfl ?_)))))))
                obtain ⟨r75, hr76, h⟩ := bind_some h
                refine a_call (args := [(i6 r69.1), (eA64u8 r69.2.1), (eA64u8 r69.2.2.1), (i6 r69.2.2.2)]) (u := []) (r := (.tuple [(eA64u8 r75.1), (eA64u8 r75.2.1), (i6 r75.2.2)])) rfl rfl (impl_BestApproximation_ok r69.1 r69.2.1 r69.2.2.1 r69.2.2.2 r75 hr76) rfl (vp (.tuple [(eA64u8 r75.1), (eA64u8 r75.2.1), (i6 r75.2.2)]) rfl (vb (eA64u8 r75.1) rfl rfl (vb (eA64u8 r75.2.1) rfl rfl (vb (i6 r75.2.2) rfl rfl (vo 3600 (eA64u8 ((vrep 64 (0 : Int)))) rfl rfl (vo 3700 (eA64u8 ((vrep 64 (0 : Int)))) rfl rfl (vs (eA64u8 r75.1) rfl rfl (fun _ => rfl) rfl rfl rfl rfl rfl rfl (vs (eA64u8 r75.2.1) rfl rfl (fun _ => rfl) rfl rfl rfl rfl rfl rfl (vp (i6 r75.2.2) rfl ?_)))))))))
                refine nx ⟨[(0, (eSu8 a0)), (3, (i6 r4.1)), (4, (ow 4)), (5, (ow 5)), (6, (eSA64u8 r10.1)), (7, (i6 r10.2)), (10, (eSi64 r29.1)), (14, (i6 r46.1)), (16, (eSA64u8 r48.1)), (17, (eSA64u8 r48.2.1)), (18, (i6 r48.2.2)), (22, (i6 r69.1)), (23, (ow 23)), (24, (ow 24)), (25, (i6 r69.2.2.2)), (26, (ow 26)), (27, (ow 27)), (28, (i6 r75.2.2))], [(4, (bk (eA64u8 r4.2.1))), (5, (bk (eA64u8 r4.2.2))), (23, (bk (eA64u8 r69.2.1))), (24, (bk (eA64u8 r69.2.2.1))), (26, (bk (eA64u8 r75.1))), (27, (bk (eA64u8 r75.2.1)))]⟩ (by kernel_rfl) (a_seq (sr (vp (i6 r69.1) rfl (vl (eA64u8 r69.2.1) rfl rfl rfl rfl rfl rfl (vl (eA64u8 r69.2.2.1) rfl rfl rfl rfl rfl rfl (vp (i6 r69.2.2.2) rfl ?_))))))
                obtain ⟨r81, hr82, h⟩ := bind_some h
                refine a_call (args := [(i6 r69.1), (eA64u8 r69.2.1), (eA64u8 r69.2.2.1), (i6 r69.2.2.2)]) (u := []) (r := (.tuple [(eA64u8 r81.1), (eA64u8 r81.2.1), (i6 r81.2.2)])) rfl rfl (spec_BestApproximation_ok r69.1 r69.2.1 r69.2.2.1 r69.2.2.2 r81 hr82) rfl (vp (.tuple [(eA64u8 r81.1), (eA64u8 r81.2.1), (i6 r81.2.2)]) rfl (vb (eA64u8 r81.1) rfl rfl (vb (eA64u8 r81.2.1) rfl rfl (vb (i6 r81.2.2) rfl rfl (vo 3900 (eA64u8 ((vrep 64 (0 : Int)))) rfl rfl (vo 4000 (eA64u8 ((vrep 64 (0 : Int)))) rfl rfl (vs (eA64u8 r81.1) rfl rfl (fun _ => rfl) rfl rfl rfl rfl rfl rfl (vs (eA64u8 r81.2.1) rfl rfl (fun _ => rfl) rfl rfl rfl rfl rfl rfl (vp (i6 r81.2.2) rfl ?_)))))))))
                refine nx ⟨[(0, (eSu8 a0)), (3, (i6 r4.1)), (4, (ow 4)), (5, (ow 5)), (6, (eSA64u8 r10.1)), (7, (i6 r10.2)), (10, (eSi64 r29.1)), (14, (i6 r46.1)), (16, (eSA64u8 r48.1)), (17, (eSA64u8 r48.2.1)), (18, (i6 r48.2.2)), (26, (ow 26)), (27, (ow 27)), (28, (i6 r75.2.2)), (29, (ow 29)), (30, (ow 30)), (31, (i6 r81.2.2))], [(4, (bk (eA64u8 r4.2.1))), (5, (bk (eA64u8 r4.2.2))), (26, (bk (eA64u8 r75.1))), (27, (bk (eA64u8 r75.2.1))), (29, (bk (eA64u8 r81.1))), (30, (bk (eA64u8 r81.2.1)))]⟩ (by kernel_rfl) ?_
                obtain ⟨y92, hy93, hk94⟩ := bind_some h
                clear h
                refine a_join (emb := fun (s : Bool) => ⟨[(0, (eSu8 a0)), (3, (i6 r4.1)), (4, (ow 4)), (5, (ow 5)), (6, (eSA64u8 r10.1)), (7, (i6 r10.2)), (10, (eSi64 r29.1)), (14, (i6 r46.1)), (16, (eSA64u8 r48.1)), (17, (eSA64u8 r48.2.1)), (18, (i6 r48.2.2)), (180, (.bool s))], [(4, (bk (eA64u8 r4.2.1))), (5, (bk (eA64u8 r4.2.2)))]⟩) (pre := fun s => s = y92) ?_ ?_
                · rintro x91 rfl
                  have h := hk94
                  refine a_st (σ' := ⟨[(0, (eSu8 a0)), (3, (i6 r4.1)), (4, (ow 4)), (5, (ow 5)), (6, (eSA64u8 r10.1)), (7, (i6 r10.2)), (10, (eSi64 r29.1)), (14, (i6 r46.1)), (16, (eSA64u8 r48.1)), (17, (eSA64u8 r48.2.1)), (18, (i6 r48.2.2)), (180, (.bool x91))], [(4, (bk (eA64u8 r4.2.1))), (5, (bk (eA64u8 r4.2.2)))]⟩) (by kernel_rfl) ?_
                  cases hb101 : x91
                  · have h := ite_f hb101 h
                    refine a_cond_f rfl (a_skip (a_next (σ' := ⟨[(0, (eSu8 a0)), (3, (i6 r4.1)), (4, (ow 4)), (5, (ow 5)), (6, (eSA64u8 r10.1)), (7, (i6 r10.2)), (10, (eSi64 r29.1)), (14, (i6 r46.1)), (16, (eSA64u8 r48.1)), (17, (eSA64u8 r48.2.1)), (18, (i6 r48.2.2))], [(4, (bk (eA64u8 r4.2.1))), (5, (bk (eA64u8 r4.2.2)))]⟩) (by kernel_rfl) (sr (vp (eSu8 a0) rfl ?_))))
                    obtain ⟨r102, hr103, h⟩ := bind_some h
                    refine a_call (args := [(eSu8 a0)]) (u := []) (r := (.tuple [(i6 r102.1), (eA64u8 r102.2.1), (eA64u8 r102.2.2.1), (i6 r102.2.2.2)])) rfl rfl (spec_DrawDigitsOfQuotient_ok a0 r102 hr103) rfl (vp (.tuple [(i6 r102.1), (eA64u8 r102.2.1), (eA64u8 r102.2.2.1), (i6 r102.2.2.2)]) rfl (vb (i6 r102.1) rfl rfl (vb (eA64u8 r102.2.1) rfl rfl (vb (eA64u8 r102.2.2.1) rfl rfl (vb (i6 r102.2.2.2) rfl rfl (vo 4300 (eA64u8 ((vrep 64 (0 : Int)))) rfl rfl (vo 4400 (eA64u8 ((vrep 64 (0 : Int)))) rfl rfl (vp (i6 r102.1) rfl (vs (eA64u8 r102.2.1) rfl rfl (fun _ => rfl) rfl rfl rfl rfl rfl rfl ?_)))))))))
                    refine vs (eA64u8 r102.2.2.1) rfl rfl (fun _ => rfl) rfl rfl rfl rfl rfl rfl (vp (i6 r102.2.2.2) rfl (nx ⟨[(3, (i6 r4.1)), (4, (ow 4)), (5, (ow 5)), (6, (eSA64u8 r10.1)), (7, (i6 r10.2)), (10, (eSi64 r29.1)), (14, (i6 r46.1)), (16, (eSA64u8 r48.1)), (17, (eSA64u8 r48.2.1)), (18, (i6 r48.2.2)), (32, (i6 r102.1)), (33, (ow 33)), (34, (ow 34)), (35, (i6 r102.2.2.2))], [(4, (bk (eA64u8 r4.2.1))), (5, (bk (eA64u8 r4.2.2))), (33, (bk (eA64u8 r102.2.1))), (34, (bk (eA64u8 r102.2.2.1)))]⟩ (by kernel_rfl) (sr (vp (i6 r102.1) rfl (vl (eA64u8 r102.2.1) rfl rfl rfl rfl rfl rfl (vl (eA64u8 r102.2.2.1) rfl rfl rfl rfl rfl rfl (vp (i6 r102.2.2.2) rfl ?_)))))))
                    obtain ⟨r108, hr109, h⟩ := bind_some h
                    refine a_call (args := [(i6 r102.1), (eA64u8 r102.2.1), (eA64u8 r102.2.2.1), (i6 r102.2.2.2)]) (u := []) (r := (.tuple [(eSi64 r108.1), (i6 r108.2)])) rfl rfl (impl_DigitsOfQuotient_ok r102.1 r102.2.1 r102.2.2.1 r102.2.2.2 r108 hr109) rfl (vp (.tuple [(eSi64 r108.1), (i6 r108.2)]) rfl (vb (eSi64 r108.1) rfl rfl (vb (i6 r108.2) rfl rfl (vp (eSi64 r108.1) rfl (vp (i6 r108.2) rfl (nx ⟨[(3, (i6 r4.1)), (4, (ow 4)), (5, (ow 5)), (6, (eSA64u8 r10.1)), (7, (i6 r10.2)), (10, (eSi64 r29.1)), (14, (i6 r46.1)), (16, (eSA64u8 r48.1)), (17, (eSA64u8 r48.2.1)), (18, (i6 r48.2.2)), (32, (i6 r102.1)), (33, (ow 33)), (34, (ow 34)), (35, (i6 r102.2.2.2)), (36, (eSi64 r108.1)), (37, (i6 r108.2))], [(4, (bk (eA64u8 r4.2.1))), (5, (bk (eA64u8 r4.2.2))), (33, (bk (eA64u8 r102.2.1))), (34, (bk (eA64u8 r102.2.2.1)))]⟩ (by kernel_rfl) (a_seq (sr (vp (i6 r102.1) rfl ?_)))))))))
                    refine vl (eA64u8 r102.2.1) rfl rfl rfl rfl rfl rfl (vl (eA64u8 r102.2.2.1) rfl rfl rfl rfl rfl rfl (vp (i6 r102.2.2.2) rfl ?_))
                    obtain ⟨r112, hr113, h⟩ := bind_some h
                    refine a_call (args := [(i6 r102.1), (eA64u8 r102.2.1), (eA64u8 r102.2.2.1), (i6 r102.2.2.2)]) (u := []) (r := (.tuple [(eSi64 r112.1), (i6 r112.2)])) rfl rfl (spec_DigitsOfQuotient_ok r102.1 r102.2.1 r102.2.2.1 r102.2.2.2 r112 hr113) rfl (vp (.tuple [(eSi64 r112.1), (i6 r112.2)]) rfl (vb (eSi64 r112.1) rfl rfl (vb (i6 r112.2) rfl rfl (vp (eSi64 r112.1) rfl (vp (i6 r112.2) rfl (nx ⟨[(3, (i6 r4.1)), (4, (ow 4)), (5, (ow 5)), (6, (eSA64u8 r10.1)), (7, (i6 r10.2)), (10, (eSi64 r29.1)), (14, (i6 r46.1)), (16, (eSA64u8 r48.1)), (17, (eSA64u8 r48.2.1)), (18, (i6 r48.2.2)), (36, (eSi64 r108.1)), (37, (i6 r108.2)), (38, (eSi64 r112.1)), (39, (i6 r112.2))], [(4, (bk (eA64u8 r4.2.1))), (5, (bk (eA64u8 r4.2.2)))]⟩ (by kernel_rfl) ?_))))))
                    obtain ⟨y118, hy119, hk120⟩ := bind_some h
                    clear h
                    refine a_join (emb := fun (s : Bool) => ⟨[(3, (i6 r4.1)), (4, (ow 4)), (5, (ow 5)), (6, (eSA64u8 r10.1)), (7, (i6 r10.2)), (10, (eSi64 r29.1)), (14, (i6 r46.1)), (16, (eSA64u8 r48.1)), (17, (eSA64u8 r48.2.1)), (18, (i6 r48.2.2)), (212, (.bool s))], [(4, (bk (eA64u8 r4.2.1))), (5, (bk (eA64u8 r4.2.2)))]⟩) (pre := fun s => s = y118) ?_ ?_
                    · rintro x117 rfl
                      have h := hk120
                      refine a_st (σ' := ⟨[(3, (i6 r4.1)), (4, (ow 4)), (5, (ow 5)), (6, (eSA64u8 r10.1)), (7, (i6 r10.2)), (10, (eSi64 r29.1)), (14, (i6 r46.1)), (16, (eSA64u8 r48.1)), (17, (eSA64u8 r48.2.1)), (18, (i6 r48.2.2)), (212, (.bool x117))], [(4, (bk (eA64u8 r4.2.1))), (5, (bk (eA64u8 r4.2.2)))]⟩) (by kernel_rfl) ?_
                      cases hb124 : x117
                      · have h := ite_f hb124 h
                        refine a_cond_f rfl (a_skip (a_next (σ' := ⟨[(3, (i6 r4.1)), (4, (ow 4)), (5, (ow 5)), (6, (eSA64u8 r10.1)), (7, (i6 r10.2)), (10, (eSi64 r29.1)), (14, (i6 r46.1)), (16, (eSA64u8 r48.1)), (17, (eSA64u8 r48.2.1)), (18, (i6 r48.2.2))], [(4, (bk (eA64u8 r4.2.1))), (5, (bk (eA64u8 r4.2.2)))]⟩) (by kernel_rfl) ?_))
                        obtain ⟨y476, hy477, hk478⟩ := bind_some h
                        clear h
                        refine a_join (emb := fun (s : Unit) => ⟨[(3, (i6 r4.1)), (4, (ow 4)), (5, (ow 5)), (6, (eSA64u8 r10.1)), (7, (i6 r10.2)), (10, (eSi64 r29.1))], [(4, (bk (eA64u8 r4.2.1))), (5, (bk (eA64u8 r4.2.2)))]⟩) (pre := fun s => (.inl s) = y476) ?_ ?_
                        · rintro _ rfl
                          have h := hk478
                          refine a_st (σ' := ⟨[(3, (i6 r4.1)), (4, (ow 4)), (5, (ow 5)), (6, (eSA64u8 r10.1)), (7, (i6 r10.2)), (10, (eSi64 r29.1))], [(4, (bk (eA64u8 r4.2.1))), (5, (bk (eA64u8 r4.2.2)))]⟩) (by kernel_rfl) (a_seq (sr (vp (i6 r10.2) rfl (vp (.bool (r10.2 != 0)) rfl (nx ⟨[(3, (i6 r4.1)), (4, (ow 4)), (5, (ow 5)), (6, (eSA64u8 r10.1)), (10, (eSi64 r29.1)), (277, (.bool (r10.2 != 0)))], [(4, (bk (eA64u8 r4.2.1))), (5, (bk (eA64u8 r4.2.2)))]⟩ (by kernel_rfl) ?_)))))
                          cases hb830 : (r10.2 != 0)
                          · have h := ite_f hb830 h
                            refine a_cond_f rfl (a_skip (a_next (σ' := ⟨[(3, (i6 r4.1)), (4, (ow 4)), (5, (ow 5)), (6, (eSA64u8 r10.1)), (10, (eSi64 r29.1))], [(4, (bk (eA64u8 r4.2.1))), (5, (bk (eA64u8 r4.2.2)))]⟩) (by kernel_rfl) (a_seq ?_)))
                            obtain ⟨y833, hy834, hk835⟩ := bind_some h
                            clear h
                            refine a_join (emb := fun (s : Bool) => ⟨[(3, (i6 r4.1)), (4, (ow 4)), (5, (ow 5)), (6, (eSA64u8 r10.1)), (10, (eSi64 r29.1)), (290, (.bool s))], [(4, (bk (eA64u8 r4.2.1))), (5, (bk (eA64u8 r4.2.2)))]⟩) (pre := fun s => s = y833) ?_ ?_
                            · rintro x832 rfl
                              have h := hk835
                              refine a_st (σ' := ⟨[(3, (i6 r4.1)), (4, (ow 4)), (5, (ow 5)), (6, (eSA64u8 r10.1)), (10, (eSi64 r29.1)), (290, (.bool x832))], [(4, (bk (eA64u8 r4.2.1))), (5, (bk (eA64u8 r4.2.2)))]⟩) (by kernel_rfl) ?_
                              cases hb837 : x832
                              · have h := ite_f hb837 h
                                refine a_cond_f rfl (a_skip (a_next (σ' := ⟨[(3, (i6 r4.1)), (4, (ow 4)), (5, (ow 5)), (6, (eSA64u8 r10.1))], [(4, (bk (eA64u8 r4.2.1))), (5, (bk (eA64u8 r4.2.2)))]⟩) (by kernel_rfl) (sr (vp (i6 r4.1) rfl (vp (eSA64u8 r10.1) rfl ?_)))))
                                obtain ⟨r838, hr839, h⟩ := bind_some h
                                refine a_call (args := [(i6 r4.1), (eSA64u8 r10.1)]) (u := []) (r := (.tuple [(eSA64u8 r838.1), (eSA64u8 r838.2.1), (i6 r838.2.2)])) rfl rfl (impl_ConvergentsOf_ok r4.1 r10.1 r838 hr839) rfl (vp (.tuple [(eSA64u8 r838.1), (eSA64u8 r838.2.1), (i6 r838.2.2)]) rfl (vb (eSA64u8 r838.1) rfl rfl (vb (eSA64u8 r838.2.1) rfl rfl (vb (i6 r838.2.2) rfl rfl (vp (eSA64u8 r838.1) rfl (vp (eSA64u8 r838.2.1) rfl (vp (i6 r838.2.2) rfl (nx ⟨[(3, (i6 r4.1)), (4, (ow 4)), (5, (ow 5)), (48, (eSA64u8 r838.1)), (49, (eSA64u8 r838.2.1)), (50, (i6 r838.2.2))], [(4, (bk (eA64u8 r4.2.1))), (5, (bk (eA64u8 r4.2.2)))]⟩ (by kernel_rfl) (a_seq ?_)))))))))
                                refine sr (vp (i6 r838.2.2) rfl (vp (.bool (r838.2.2 != 0)) rfl (nx ⟨[(3, (i6 r4.1)), (4, (ow 4)), (5, (ow 5)), (48, (eSA64u8 r838.1)), (49, (eSA64u8 r838.2.1)), (304, (.bool (r838.2.2 != 0)))], [(4, (bk (eA64u8 r4.2.1))), (5, (bk (eA64u8 r4.2.2)))]⟩ (by kernel_rfl) ?_)))
                                cases hb840 : (r838.2.2 != 0)
                                · have h := ite_f hb840 h
                                  refine a_cond_f rfl (a_skip (a_next (σ' := ⟨[(3, (i6 r4.1)), (4, (ow 4)), (5, (ow 5)), (48, (eSA64u8 r838.1)), (49, (eSA64u8 r838.2.1))], [(4, (bk (eA64u8 r4.2.1))), (5, (bk (eA64u8 r4.2.2)))]⟩) (by kernel_rfl) (a_seq (a_draw [⟨[], [], [], []⟩, ⟨[4], [], [], []⟩, ⟨[], [], [], []⟩, ⟨[], [], [], []⟩, ⟨[], [], [], [3]⟩, ⟨[], [], [], [3, 4]⟩, ⟨[], [], [], [2, 3, 4, 5]⟩, ⟨[], [], [], [2, 3, 4, 5, 6]⟩, ⟨[], [], [], [0, 1, 2, 3, 4, 5, 6, 7]⟩, ⟨[], [], [], [0, 1, 2, 3, 4, 5, 6, 7, 8]⟩, ⟨[], [], [], [0, 1, 2, 3, 4, 5, 6, 7, 8, 9]⟩, ⟨[], [], [], [0, 1, 2, 3, 4, 5, 6, 7, 8, 9]⟩, ⟨[6100], [6100], [6100], []⟩, ⟨[6100], [6100], [], [0, 1, 2, 3, 4, 5, 6, 7, 8, 9, 10, 12]⟩, ⟨[], [], [], [0, 1, 2, 3, 4, 5, 6, 7, 8, 9, 10, 11, 12, 13]⟩] (by kernel_rfl) (dp (i6 r4.1) rfl (by kernel_rfl) (d_cons (vl (eA64u8 r4.2.1) rfl rfl rfl rfl rfl rfl (d_next (by kernel_rfl) (dp (eSA64u8 r838.2.1) rfl (by kernel_rfl) ?_)))))))))
                                  refine dp (eSA64u8 r838.2.1) rfl (by kernel_rfl) (d_cons (vq (i6 (r838.2.1.length : Int)) (len_run rfl rfl) trivial (d_next (by kernel_rfl) (dp (i6 (IntKind.i64.wrap ((r838.2.1.length : Int) - 1))) rfl (by kernel_rfl) (d_cons ?_)))))
                                  obtain ⟨hc850, h⟩ := ifp_some h
                                  refine vq (.ref (.row 64 (r838.2.1.map eA64u8)) [(IntKind.i64.wrap ((r838.2.1.length : Int) - 1)).toNat] [(IntKind.i64.wrap ((r838.2.1.length : Int) - 1)).toNat * 64]) rfl (lmap hc850) (d_next (by kernel_rfl) (d_cons ?_))
                                  have hl851 : LdOk [(IntKind.i64.wrap ((r838.2.1.length : Int) - 1)).toNat] (.row 64 (r838.2.1.map eA64u8)) [(IntKind.i64.wrap ((r838.2.1.length : Int) - 1)).toNat * 64] 64 true (eA64u8 ((rd r838.2.1 (IntKind.i64.wrap ((r838.2.1.length : Int) - 1)).toNat))) := (.row (llt hc850) rfl (.nil rfl rfl rfl))
                                  obtain ⟨x852, hx853, h⟩ := letp_some h
                                  refine a_val' (v := (eA64u8 ((rd r838.2.1 (IntKind.i64.wrap ((r838.2.1.length : Int) - 1)).toNat)))) (v' := (eA64u8 x852)) (u := []) (u' := []) (ld_ref (i := ⟨.arr 64 5, 64, 64, (eA64u8 (vrep 64 (0 : Int)))⟩) rfl rfl hl851) (congrArg (fun z => ((eA64u8 z) : AV)) hx853) rfl hl851.c rfl (d_next (by kernel_rfl) (d_cons ?_))
                                  obtain ⟨r854, hr855, h⟩ := bind_some h
                                  refine a_call (args := [(i6 r4.1), (eA64u8 r4.2.1), (eA64u8 x852)]) (u := []) (r := (.tuple [(eA64u8 r854.1), (i6 r854.2)])) rfl rfl (impl_MultiplyPolys_ok r4.1 r4.2.1 x852 r854 hr855) rfl (d_next (by kernel_rfl) (dp (.tuple [(eA64u8 r854.1), (i6 r854.2)]) rfl (by kernel_rfl) (d_cons (vb (eA64u8 r854.1) rfl rfl (d_next (by kernel_rfl) (d_cons (vb (i6 r854.2) rfl rfl (d_next (by kernel_rfl) (d_cons ?_)))))))))
                                  refine vo 6100 (eA64u8 ((vrep 64 (0 : Int)))) rfl rfl (d_next (by kernel_rfl) (d_cons (vs (eA64u8 r854.1) rfl rfl (fun _ => rfl) rfl rfl rfl rfl rfl rfl (d_next (by kernel_rfl) (dp (i6 r854.2) rfl (by kernel_rfl) (d_nil (a_next (σ' := ⟨[(3, (i6 r4.1)), (5, (ow 5)), (48, (eSA64u8 r838.1)), (51, (ow 51)), (52, (i6 r854.2))], [(5, (bk (eA64u8 r4.2.2))), (51, (bk (eA64u8 r854.1)))]⟩) (by kernel_rfl) (a_seq (a_draw [⟨[], [], [], []⟩, ⟨[5], [], [], []⟩, ⟨[], [], [], []⟩, ⟨[], [], [], []⟩, ⟨[], [], [], [3]⟩, ⟨[], [], [], [3, 4]⟩, ⟨[], [], [], [2, 3, 4, 5]⟩, ⟨[], [], [], [2, 3, 4, 5, 6]⟩, ⟨[], [], [], [0, 1, 2, 3, 4, 5, 6, 7]⟩, ⟨[], [], [], [0, 1, 2, 3, 4, 5, 6, 7, 8]⟩, ⟨[], [], [], [0, 1, 2, 3, 4, 5, 6, 7, 8, 9]⟩, ⟨[], [], [], [0, 1, 2, 3, 4, 5, 6, 7, 8, 9]⟩, ⟨[6300], [6300], [6300], []⟩, ⟨[6300], [6300], [], [0, 1, 2, 3, 4, 5, 6, 7, 8, 9, 10, 12]⟩, ⟨[], [], [], [0, 1, 2, 3, 4, 5, 6, 7, 8, 9, 10, 11, 12, 13]⟩] (by kernel_rfl) ?_)))))))))
                                  refine dp (i6 r4.1) rfl (by kernel_rfl) (d_cons (vl (eA64u8 r4.2.2) rfl rfl rfl rfl rfl rfl (d_next (by kernel_rfl) (dp (eSA64u8 r838.1) rfl (by kernel_rfl) (dp (eSA64u8 r838.1) rfl (by kernel_rfl) (d_cons (vq (i6 (r838.1.length : Int)) (len_run rfl rfl) trivial (d_next (by kernel_rfl) (dp (i6 (IntKind.i64.wrap ((r838.1.length : Int) - 1))) rfl (by kernel_rfl) ?_)))))))))
                                  refine d_cons ?_
                                  obtain ⟨hc866, h⟩ := ifp_some h
                                  refine vq (.ref (.row 64 (r838.1.map eA64u8)) [(IntKind.i64.wrap ((r838.1.length : Int) - 1)).toNat] [(IntKind.i64.wrap ((r838.1.length : Int) - 1)).toNat * 64]) rfl (lmap hc866) (d_next (by kernel_rfl) (d_cons ?_))
                                  have hl867 : LdOk [(IntKind.i64.wrap ((r838.1.length : Int) - 1)).toNat] (.row 64 (r838.1.map eA64u8)) [(IntKind.i64.wrap ((r838.1.length : Int) - 1)).toNat * 64] 64 true (eA64u8 ((rd r838.1 (IntKind.i64.wrap ((r838.1.length : Int) - 1)).toNat))) := (.row (llt hc866) rfl (.nil rfl rfl rfl))
                                  obtain ⟨x868, hx869, h⟩ := letp_some h
                                  refine a_val' (v := (eA64u8 ((rd r838.1 (IntKind.i64.wrap ((r838.1.length : Int) - 1)).toNat)))) (v' := (eA64u8 x868)) (u := []) (u' := []) (ld_ref (i := ⟨.arr 64 5, 64, 64, (eA64u8 (vrep 64 (0 : Int)))⟩) rfl rfl hl867) (congrArg (fun z => ((eA64u8 z) : AV)) hx869) rfl hl867.c rfl (d_next (by kernel_rfl) (d_cons ?_))
                                  obtain ⟨r870, hr871, h⟩ := bind_some h
                                  refine a_call (args := [(i6 r4.1), (eA64u8 r4.2.2), (eA64u8 x868)]) (u := []) (r := (.tuple [(eA64u8 r870.1), (i6 r870.2)])) rfl rfl (impl_MultiplyPolys_ok r4.1 r4.2.2 x868 r870 hr871) rfl (d_next (by kernel_rfl) (dp (.tuple [(eA64u8 r870.1), (i6 r870.2)]) rfl (by kernel_rfl) (d_cons (vb (eA64u8 r870.1) rfl rfl (d_next (by kernel_rfl) (d_cons (vb (i6 r870.2) rfl rfl (d_next (by kernel_rfl) (d_cons ?_)))))))))
                                  refine vo 6300 (eA64u8 ((vrep 64 (0 : Int)))) rfl rfl (d_next (by kernel_rfl) (d_cons (vs (eA64u8 r870.1) rfl rfl (fun _ => rfl) rfl rfl rfl rfl rfl rfl (d_next (by kernel_rfl) (dp (i6 r870.2) rfl (by kernel_rfl) (d_nil (a_next (σ' := ⟨[(51, (ow 51)), (52, (i6 r854.2)), (53, (ow 53)), (54, (i6 r870.2))], [(51, (bk (eA64u8 r854.1))), (53, (bk (eA64u8 r870.1)))]⟩) (by kernel_rfl) (sr (vp (i6 r854.2) rfl ?_)))))))))
                                  refine vp (.bool (r854.2 != 0)) rfl (vp (.bool (r854.2 != 0)) rfl ?_)
                                  cases hb873 : (r854.2 != 0)
                                  · have h := ite_f hb873 h
                                    refine gp (i6 r870.2) rfl rfl (gp (.bool (r870.2 != 0)) rfl rfl (vp (.bool (r870.2 != 0)) rfl (vp (.bool (r870.2 != 0)) rfl ?_)))
                                    cases hb874 : (r870.2 != 0)
                                    · have h := ite_f hb874 h
                                      have hl875 : LdOk [] (eA64u8 r854.1) [] 64 true (eA64u8 r854.1) := (.nil rfl rfl rfl)
                                      refine gq (eA64u8 r854.1) rfl (ld_own (i := ⟨.arr 64 5, 64, 64, (eA64u8 (vrep 64 (0 : Int)))⟩) rfl rfl rfl hl875) hl875.c ?_
                                      have hl876 : LdOk [] (eA64u8 r870.1) [] 64 true (eA64u8 r870.1) := (.nil rfl rfl rfl)
                                      refine gq (eA64u8 r870.1) rfl (ld_own (i := ⟨.arr 64 5, 64, 64, (eA64u8 (vrep 64 (0 : Int)))⟩) rfl rfl rfl hl876) hl876.c (gq (.bool ((decide (r854.1 = r870.1)))) rfl (eqa_run (f := (AV.int .u8)) (a := r854.1.1) (b := r870.1.1) rfl rfl (eqb_vec (fun _ _ => eqb_int _ _) r854.1 r870.1)) (cmp_arr (g := 8) (f := (AV.int .u8)) (x := r854.1) (y := r870.1) rfl rfl rfl (fun _ _ => rfl) (fun _ _ => cmp_int rfl)) (vp (.bool ((decide (r854.1 = r870.1)))) rfl (vp (.bool ((decide (r854.1 = r870.1)))) rfl (nx _ rfl (a_ret ?_)))))
                                      refine ⟨.inr rfl, ?_⟩
                                      rw [Try.results8]
                                      cases h
                                      exact ⟨_, _, _, _, _, rfl, trivial, .inl ⟨rfl, .inl rfl⟩, rfl, rfl⟩
                                    · have h := ite_t hb874 h
                                      refine a_gskip rfl (a_gskip rfl (a_gskip rfl (vp (.bool true) rfl (vp (.bool true) rfl (nx _ rfl (a_ret ?_))))))
                                      refine ⟨.inr rfl, ?_⟩
                                      rw [Try.results8]
                                      cases h
                                      exact ⟨_, _, _, _, _, rfl, trivial, .inl ⟨rfl, .inl rfl⟩, rfl, rfl⟩
                                  · have h := ite_t hb873 h
                                    refine a_gskip rfl (a_gskip rfl (vp (.bool true) rfl (vp (.bool true) rfl (a_gskip rfl (a_gskip rfl (a_gskip rfl (vp (.bool true) rfl (vp (.bool true) rfl (nx _ rfl ?_)))))))))
                                    refine a_ret ?_
                                    refine ⟨.inr rfl, ?_⟩
                                    rw [Try.results8]
                                    cases h
                                    exact ⟨_, _, _, _, _, rfl, trivial, .inl ⟨rfl, .inl rfl⟩, rfl, rfl⟩
                                · have h := ite_t hb840 h
                                  refine a_cond_t rfl (sr (vp (.bool false) rfl (nx _ rfl (a_ret (t_ret ?_)))))
                                  refine ⟨.inr rfl, ?_⟩
                                  rw [Try.results8]
                                  cases h
                                  exact ⟨_, _, _, _, _, rfl, trivial, .inl ⟨rfl, .inl rfl⟩, rfl, rfl⟩
                              · have h := ite_t hb837 h
                                refine a_cond_t rfl (sr (vp (eSi64 r29.1) rfl (vq (i6 (r29.1.length : Int)) (len_run rfl rfl) trivial (vp (eSA64u8 r10.1) rfl (vq (i6 (r10.1.length : Int)) (len_run rfl rfl) trivial (vp (.bool (((r29.1.length : Int) == (r10.1.length : Int)))) rfl (vp (.bool (((r29.1.length : Int) == (r10.1.length : Int)))) rfl (nx _ rfl (a_ret ?_)))))))))
                                refine t_ret ?_
                                refine ⟨.inr rfl, ?_⟩
                                rw [Try.results8]
                                cases h
                                exact ⟨_, _, _, _, _, rfl, trivial, .inl ⟨rfl, .inl rfl⟩, rfl, rfl⟩
                            · have h := hy834
                              refine a_region (vp (eSi64 r29.1) rfl (vq (i6 (r29.1.length : Int)) (len_run rfl rfl) trivial (vp (eSA64u8 r10.1) rfl (vq (i6 (r10.1.length : Int)) (len_run rfl rfl) trivial (vp (.bool (((r29.1.length : Int) != (r10.1.length : Int)))) rfl (vp (.bool (((r29.1.length : Int) != (r10.1.length : Int)))) rfl ?_))))))
                              cases hb836 : ((r29.1.length : Int) != (r10.1.length : Int))
                              · have h := ite_f hb836 h
                                refine gp (eSA64u8 r10.1) rfl rfl (gq (i6 (r10.1.length : Int)) rfl (len_run rfl rfl) trivial (gp (.bool ((decide ((r10.1.length : Int) > 30)))) rfl rfl (vp (.bool ((decide ((r10.1.length : Int) > 30)))) rfl (a_nil ?_))))
                                exact j_leaf ((decide ((r10.1.length : Int) > 30))) (Option.some.inj h) (by kernel_rfl)
                              · have h := ite_t hb836 h
                                refine a_gskip rfl (a_gskip rfl (a_gskip rfl (vp (.bool true) rfl (a_nil ?_))))
                                exact j_leaf true (Option.some.inj h) (by kernel_rfl)
                          · have h := ite_t hb830 h
                            refine a_cond_t rfl (sr (vp (eSA64u8 r10.1) rfl (vq (i6 (r10.1.length : Int)) (len_run rfl rfl) trivial (vp (.bool (((r10.1.length : Int) == 0))) rfl (vp (.bool (((r10.1.length : Int) == 0))) rfl (nx _ rfl (a_ret (t_ret ?_))))))))
                            refine ⟨.inr rfl, ?_⟩
                            rw [Try.results8]
                            cases h
                            exact ⟨_, _, _, _, _, rfl, trivial, .inl ⟨rfl, .inl rfl⟩, rfl, rfl⟩
                        · have h := hy477
                          refine sr (vp (i6 r48.2.2) rfl (vp (.bool (r48.2.2 == 0)) rfl (nx ⟨[(3, (i6 r4.1)), (4, (ow 4)), (5, (ow 5)), (6, (eSA64u8 r10.1)), (7, (i6 r10.2)), (10, (eSi64 r29.1)), (14, (i6 r46.1)), (16, (eSA64u8 r48.1)), (17, (eSA64u8 r48.2.1)), (214, (.bool (r48.2.2 == 0)))], [(4, (bk (eA64u8 r4.2.1))), (5, (bk (eA64u8 r4.2.2)))]⟩ (by kernel_rfl) ?_)))
                          cases hb479 : (r48.2.2 == 0)
                          · have h := ite_f hb479 h
                            refine a_cond_f rfl (a_skip ?_)
                            exact j_leaf () (Option.some.inj h) (by kernel_rfl)
                          · have h := ite_t hb479 h
                            refine a_cond_t rfl (sr (vp (i6 1) rfl (nx ⟨[(3, (i6 r4.1)), (4, (ow 4)), (5, (ow 5)), (6, (eSA64u8 r10.1)), (7, (i6 r10.2)), (10, (eSi64 r29.1)), (14, (i6 r46.1)), (16, (eSA64u8 r48.1)), (17, (eSA64u8 r48.2.1)), (40, (i6 1))], [(4, (bk (eA64u8 r4.2.1))), (5, (bk (eA64u8 r4.2.2)))]⟩ (by kernel_rfl) (a_block ?_))))
                            refine a_loop (emb := fun (s : Int) => ⟨[(3, (i6 r4.1)), (4, (ow 4)), (5, (ow 5)), (6, (eSA64u8 r10.1)), (7, (i6 r10.2)), (10, (eSi64 r29.1)), (14, (i6 r46.1)), (16, (eSA64u8 r48.1)), (17, (eSA64u8 r48.2.1)), (40, (i6 s))], [(4, (bk (eA64u8 r4.2.1))), (5, (bk (eA64u8 r4.2.2)))]⟩) (body := (fun s : Int => laws_FnFractions_l1 r48 r46 s)) (G := fun q => some q = some y476) h rfl ?_ (by kernel_rfl)
                            rintro X711 x595 x712 h hX713
                            have h : laws_FnFractions_l1 r48 r46 x595 = some x712 := h
                            refine a_st (σ' := ⟨[(3, (i6 r4.1)), (4, (ow 4)), (5, (ow 5)), (6, (eSA64u8 r10.1)), (7, (i6 r10.2)), (10, (eSi64 r29.1)), (14, (i6 r46.1)), (16, (eSA64u8 r48.1)), (17, (eSA64u8 r48.2.1)), (40, (i6 x595))], [(4, (bk (eA64u8 r4.2.1))), (5, (bk (eA64u8 r4.2.2)))]⟩) (by kernel_rfl) (a_seq (sr (vp (i6 x595) rfl (vp (eSA64u8 r48.1) rfl (vq (i6 (r48.1.length : Int)) (len_run rfl rfl) trivial (vp (.bool ((decide (x595 < (r48.1.length : Int))))) rfl (nx ⟨[(3, (i6 r4.1)), (4, (ow 4)), (5, (ow 5)), (6, (eSA64u8 r10.1)), (7, (i6 r10.2)), (10, (eSi64 r29.1)), (14, (i6 r46.1)), (16, (eSA64u8 r48.1)), (17, (eSA64u8 r48.2.1)), (40, (i6 x595)), (218, (.bool ((decide (x595 < (r48.1.length : Int))))))], [(4, (bk (eA64u8 r4.2.1))), (5, (bk (eA64u8 r4.2.2)))]⟩ (by kernel_rfl) ?_)))))))
                            cases hb714 : (decide (x595 < (r48.1.length : Int)))
                            · have h := ite_f hb714 h
                              refine a_cond_f rfl (a_exit (t_exit ?_))
                              cases h
                              have h := hX713
                              refine t_exit (b_exit ?_)
                              exact j_leaf () (Option.some.inj h) (by kernel_rfl)
                            · have h := ite_t hb714 h
                              refine a_cond_t rfl (a_skip (a_next (σ' := ⟨[(3, (i6 r4.1)), (4, (ow 4)), (5, (ow 5)), (6, (eSA64u8 r10.1)), (7, (i6 r10.2)), (10, (eSi64 r29.1)), (14, (i6 r46.1)), (16, (eSA64u8 r48.1)), (17, (eSA64u8 r48.2.1)), (40, (i6 x595))], [(4, (bk (eA64u8 r4.2.1))), (5, (bk (eA64u8 r4.2.2)))]⟩) (by kernel_rfl) ?_))
                              obtain ⟨y770, hy771, hk772⟩ := bind_some h
                              clear h
                              refine a_join (emb := fun (s : Unit) => ⟨[(3, (i6 r4.1)), (4, (ow 4)), (5, (ow 5)), (6, (eSA64u8 r10.1)), (7, (i6 r10.2)), (10, (eSi64 r29.1)), (14, (i6 r46.1)), (16, (eSA64u8 r48.1)), (17, (eSA64u8 r48.2.1)), (40, (i6 x595))], [(4, (bk (eA64u8 r4.2.1))), (5, (bk (eA64u8 r4.2.2)))]⟩) (pre := fun s => (.inl s) = y770) ?_ ?_
                              · rintro _ rfl
                                have h := hk772
                                refine a_st (σ' := ⟨[(3, (i6 r4.1)), (4, (ow 4)), (5, (ow 5)), (6, (eSA64u8 r10.1)), (7, (i6 r10.2)), (10, (eSi64 r29.1)), (14, (i6 r46.1)), (16, (eSA64u8 r48.1)), (17, (eSA64u8 r48.2.1)), (40, (i6 x595))], [(4, (bk (eA64u8 r4.2.1))), (5, (bk (eA64u8 r4.2.2)))]⟩) (by kernel_rfl) (a_region (vp (i6 x595) rfl (vp (i6 (IntKind.i64.wrap (x595 + 1))) rfl (vp (i6 (IntKind.i64.wrap (x595 + 1))) rfl (a_nil ?_)))))
                                cases h
                                exact a_again (by kernel_rfl) hX713
                              · have h := hy771
                                refine a_block (a_seq (a_draw [⟨[], [], [], []⟩, ⟨[], [], [], []⟩, ⟨[], [], [], []⟩, ⟨[], [], [], [1, 2]⟩, ⟨[], [], [], [1, 2, 3]⟩, ⟨[], [], [], []⟩, ⟨[], [], [], []⟩, ⟨[], [], [], [6]⟩, ⟨[], [], [], [5, 6, 7]⟩, ⟨[], [], [], [5, 6, 7, 8]⟩, ⟨[], [], [], [0, 1, 2, 3, 4, 5, 6, 7, 8, 9]⟩, ⟨[], [], [], [0, 1, 2, 3, 4, 5, 6, 7, 8, 9, 10]⟩, ⟨[], [], [], [0, 1, 2, 3, 4, 5, 6, 7, 8, 9, 10, 11]⟩, ⟨[], [], [], [0, 1, 2, 3, 4, 5, 6, 7, 8, 9, 10, 11]⟩, ⟨[5100], [5100], [5100], []⟩, ⟨[5100], [5100], [], [0, 1, 2, 3, 4, 5, 6, 7, 8, 9, 10, 11, 12, 14]⟩, ⟨[], [], [], [0, 1, 2, 3, 4, 5, 6, 7, 8, 9, 10, 11, 12, 13, 14, 15]⟩] (by kernel_rfl) (dp (i6 r46.1) rfl (by kernel_rfl) (dp (eSA64u8 r48.1) rfl (by kernel_rfl) (dp (i6 x595) rfl (by kernel_rfl) (d_cons ?_))))))
                                obtain ⟨hc780, h⟩ := ifp_some h
                                refine vq (.ref (.row 64 (r48.1.map eA64u8)) [x595.toNat] [x595.toNat * 64]) rfl (lmap hc780) (d_next (by kernel_rfl) (d_cons ?_))
                                have hl781 : LdOk [x595.toNat] (.row 64 (r48.1.map eA64u8)) [x595.toNat * 64] 64 true (eA64u8 (rd r48.1 x595.toNat)) := (.row (llt hc780) rfl (.nil rfl rfl rfl))
                                refine vq (eA64u8 (rd r48.1 x595.toNat)) (ld_ref (i := ⟨.arr 64 5, 64, 64, (eA64u8 (vrep 64 (0 : Int)))⟩) rfl rfl hl781) hl781.c (d_next (by kernel_rfl) (dp (eSA64u8 r48.2.1) rfl (by kernel_rfl) (dp (i6 x595) rfl (by kernel_rfl) (dp (i6 (IntKind.i64.wrap (x595 - 1))) rfl (by kernel_rfl) (d_cons ?_)))))
                                obtain ⟨hc782, h⟩ := ifp_some h
                                refine vq (.ref (.row 64 (r48.2.1.map eA64u8)) [(IntKind.i64.wrap (x595 - 1)).toNat] [(IntKind.i64.wrap (x595 - 1)).toNat * 64]) rfl (lmap hc782) (d_next (by kernel_rfl) (d_cons ?_))
                                have hl783 : LdOk [(IntKind.i64.wrap (x595 - 1)).toNat] (.row 64 (r48.2.1.map eA64u8)) [(IntKind.i64.wrap (x595 - 1)).toNat * 64] 64 true (eA64u8 ((rd r48.2.1 (IntKind.i64.wrap (x595 - 1)).toNat))) := (.row (llt hc782) rfl (.nil rfl rfl rfl))
                                refine vq (eA64u8 ((rd r48.2.1 (IntKind.i64.wrap (x595 - 1)).toNat))) (ld_ref (i := ⟨.arr 64 5, 64, 64, (eA64u8 (vrep 64 (0 : Int)))⟩) rfl rfl hl783) hl783.c (d_next (by kernel_rfl) (d_cons ?_))
                                obtain ⟨r784, hr785, h⟩ := bind_some h
                                refine a_call (args := [(i6 r46.1), (eA64u8 (rd r48.1 x595.toNat)), (eA64u8 ((rd r48.2.1 (IntKind.i64.wrap (x595 - 1)).toNat)))]) (u := []) (r := (.tuple [(eA64u8 r784.1), (i6 r784.2)])) rfl rfl (impl_MultiplyPolys_ok r46.1 (rd r48.1 x595.toNat) ((rd r48.2.1 (IntKind.i64.wrap (x595 - 1)).toNat)) r784 hr785) rfl (d_next (by kernel_rfl) (dp (.tuple [(eA64u8 r784.1), (i6 r784.2)]) rfl (by kernel_rfl) (d_cons (vb (eA64u8 r784.1) rfl rfl (d_next (by kernel_rfl) (d_cons (vb (i6 r784.2) rfl rfl (d_next (by kernel_rfl) (d_cons ?_)))))))))
                                refine vo 5100 (eA64u8 ((vrep 64 (0 : Int)))) rfl rfl (d_next (by kernel_rfl) (d_cons (vs (eA64u8 r784.1) rfl rfl (fun _ => rfl) rfl rfl rfl rfl rfl rfl (d_next (by kernel_rfl) (dp (i6 r784.2) rfl (by kernel_rfl) (d_nil (a_next (σ' := ⟨[(3, (i6 r4.1)), (4, (ow 4)), (5, (ow 5)), (6, (eSA64u8 r10.1)), (7, (i6 r10.2)), (10, (eSi64 r29.1)), (14, (i6 r46.1)), (16, (eSA64u8 r48.1)), (17, (eSA64u8 r48.2.1)), (40, (i6 x595)), (41, (ow 41)), (42, (i6 r784.2))], [(4, (bk (eA64u8 r4.2.1))), (5, (bk (eA64u8 r4.2.2))), (41, (bk (eA64u8 r784.1)))]⟩) (by kernel_rfl) (a_seq (a_draw [⟨[], [], [], []⟩, ⟨[], [], [], []⟩, ⟨[], [], [], []⟩, ⟨[], [], [], [2]⟩, ⟨[], [], [], [1, 2, 3]⟩, ⟨[], [], [], [1, 2, 3, 4]⟩, ⟨[], [], [], []⟩, ⟨[], [], [], []⟩, ⟨[], [], [], [6, 7]⟩, ⟨[], [], [], [6, 7, 8]⟩, ⟨[], [], [], [0, 1, 2, 3, 4, 5, 6, 7, 8, 9]⟩, ⟨[], [], [], [0, 1, 2, 3, 4, 5, 6, 7, 8, 9, 10]⟩, ⟨[], [], [], [0, 1, 2, 3, 4, 5, 6, 7, 8, 9, 10, 11]⟩, ⟨[], [], [], [0, 1, 2, 3, 4, 5, 6, 7, 8, 9, 10, 11]⟩, ⟨[5300], [5300], [5300], []⟩, ⟨[5300], [5300], [], [0, 1, 2, 3, 4, 5, 6, 7, 8, 9, 10, 11, 12, 14]⟩, ⟨[], [], [], [0, 1, 2, 3, 4, 5, 6, 7, 8, 9, 10, 11, 12, 13, 14, 15]⟩] (by kernel_rfl) ?_)))))))))
                                refine dp (i6 r46.1) rfl (by kernel_rfl) (dp (eSA64u8 r48.1) rfl (by kernel_rfl) (dp (i6 x595) rfl (by kernel_rfl) (dp (i6 (IntKind.i64.wrap (x595 - 1))) rfl (by kernel_rfl) (d_cons ?_))))
                                obtain ⟨hc794, h⟩ := ifp_some h
                                refine vq (.ref (.row 64 (r48.1.map eA64u8)) [(IntKind.i64.wrap (x595 - 1)).toNat] [(IntKind.i64.wrap (x595 - 1)).toNat * 64]) rfl (lmap hc794) (d_next (by kernel_rfl) (d_cons ?_))
                                have hl795 : LdOk [(IntKind.i64.wrap (x595 - 1)).toNat] (.row 64 (r48.1.map eA64u8)) [(IntKind.i64.wrap (x595 - 1)).toNat * 64] 64 true (eA64u8 ((rd r48.1 (IntKind.i64.wrap (x595 - 1)).toNat))) := (.row (llt hc794) rfl (.nil rfl rfl rfl))
                                refine vq (eA64u8 ((rd r48.1 (IntKind.i64.wrap (x595 - 1)).toNat))) (ld_ref (i := ⟨.arr 64 5, 64, 64, (eA64u8 (vrep 64 (0 : Int)))⟩) rfl rfl hl795) hl795.c (d_next (by kernel_rfl) (dp (eSA64u8 r48.2.1) rfl (by kernel_rfl) (dp (i6 x595) rfl (by kernel_rfl) (d_cons ?_))))
                                obtain ⟨hc796, h⟩ := ifp_some h
                                refine vq (.ref (.row 64 (r48.2.1.map eA64u8)) [x595.toNat] [x595.toNat * 64]) rfl (lmap hc796) (d_next (by kernel_rfl) (d_cons ?_))
                                have hl797 : LdOk [x595.toNat] (.row 64 (r48.2.1.map eA64u8)) [x595.toNat * 64] 64 true (eA64u8 (rd r48.2.1 x595.toNat)) := (.row (llt hc796) rfl (.nil rfl rfl rfl))
                                refine vq (eA64u8 (rd r48.2.1 x595.toNat)) (ld_ref (i := ⟨.arr 64 5, 64, 64, (eA64u8 (vrep 64 (0 : Int)))⟩) rfl rfl hl797) hl797.c (d_next (by kernel_rfl) (d_cons ?_))
                                obtain ⟨r798, hr799, h⟩ := bind_some h
                                refine a_call (args := [(i6 r46.1), (eA64u8 ((rd r48.1 (IntKind.i64.wrap (x595 - 1)).toNat))), (eA64u8 (rd r48.2.1 x595.toNat))]) (u := []) (r := (.tuple [(eA64u8 r798.1), (i6 r798.2)])) rfl rfl (impl_MultiplyPolys_ok r46.1 ((rd r48.1 (IntKind.i64.wrap (x595 - 1)).toNat)) (rd r48.2.1 x595.toNat) r798 hr799) rfl (d_next (by kernel_rfl) (dp (.tuple [(eA64u8 r798.1), (i6 r798.2)]) rfl (by kernel_rfl) (d_cons (vb (eA64u8 r798.1) rfl rfl (d_next (by kernel_rfl) (d_cons (vb (i6 r798.2) rfl rfl (d_next (by kernel_rfl) (d_cons ?_)))))))))
                                refine vo 5300 (eA64u8 ((vrep 64 (0 : Int)))) rfl rfl (d_next (by kernel_rfl) (d_cons (vs (eA64u8 r798.1) rfl rfl (fun _ => rfl) rfl rfl rfl rfl rfl rfl (d_next (by kernel_rfl) (dp (i6 r798.2) rfl (by kernel_rfl) (d_nil (a_next (σ' := ⟨[(3, (i6 r4.1)), (4, (ow 4)), (5, (ow 5)), (6, (eSA64u8 r10.1)), (7, (i6 r10.2)), (10, (eSi64 r29.1)), (14, (i6 r46.1)), (16, (eSA64u8 r48.1)), (17, (eSA64u8 r48.2.1)), (40, (i6 x595)), (41, (ow 41)), (42, (i6 r784.2)), (43, (ow 43)), (44, (i6 r798.2))], [(4, (bk (eA64u8 r4.2.1))), (5, (bk (eA64u8 r4.2.2))), (41, (bk (eA64u8 r784.1))), (43, (bk (eA64u8 r798.1)))]⟩) (by kernel_rfl) (a_seq ?_))))))))
                                obtain ⟨y803, hy804, hk805⟩ := bind_some h
                                clear h
                                refine a_join (emb := fun (s : Bool) => ⟨[(3, (i6 r4.1)), (4, (ow 4)), (5, (ow 5)), (6, (eSA64u8 r10.1)), (7, (i6 r10.2)), (10, (eSi64 r29.1)), (14, (i6 r46.1)), (16, (eSA64u8 r48.1)), (17, (eSA64u8 r48.2.1)), (40, (i6 x595)), (41, (ow 41)), (43, (ow 43)), (254, (.bool s))], [(4, (bk (eA64u8 r4.2.1))), (5, (bk (eA64u8 r4.2.2))), (41, (bk (eA64u8 r784.1))), (43, (bk (eA64u8 r798.1)))]⟩) (pre := fun s => s = y803) ?_ ?_
                                · rintro x802 rfl
                                  have h := hk805
                                  refine a_st (σ' := ⟨[(3, (i6 r4.1)), (4, (ow 4)), (5, (ow 5)), (6, (eSA64u8 r10.1)), (7, (i6 r10.2)), (10, (eSi64 r29.1)), (14, (i6 r46.1)), (16, (eSA64u8 r48.1)), (17, (eSA64u8 r48.2.1)), (40, (i6 x595)), (41, (ow 41)), (43, (ow 43)), (254, (.bool x802))], [(4, (bk (eA64u8 r4.2.1))), (5, (bk (eA64u8 r4.2.2))), (41, (bk (eA64u8 r784.1))), (43, (bk (eA64u8 r798.1)))]⟩) (by kernel_rfl) ?_
                                  cases hb807 : x802
                                  · have h := ite_f hb807 h
                                    refine a_cond_f rfl (a_skip (a_next (σ' := ⟨[(3, (i6 r4.1)), (4, (ow 4)), (5, (ow 5)), (6, (eSA64u8 r10.1)), (7, (i6 r10.2)), (10, (eSi64 r29.1)), (14, (i6 r46.1)), (16, (eSA64u8 r48.1)), (17, (eSA64u8 r48.2.1)), (40, (i6 x595)), (41, (ow 41)), (43, (ow 43))], [(4, (bk (eA64u8 r4.2.1))), (5, (bk (eA64u8 r4.2.2))), (41, (bk (eA64u8 r784.1))), (43, (bk (eA64u8 r798.1)))]⟩) (by kernel_rfl) (sr (vp (i6 r46.1) rfl (vl (eA64u8 r784.1) rfl rfl rfl rfl rfl rfl (vl (eA64u8 r798.1) rfl rfl rfl rfl rfl rfl ?_))))))
                                    obtain ⟨r810, hr811, h⟩ := bind_some h
                                    refine a_call (args := [(i6 r46.1), (eA64u8 r784.1), (eA64u8 r798.1)]) (u := []) (r := (.tuple [(eA64u8 r810.1), (i6 r810.2)])) rfl rfl (impl_SubtractPolys_ok r46.1 r784.1 r798.1 r810 hr811) rfl (vp (.tuple [(eA64u8 r810.1), (i6 r810.2)]) rfl (vb (eA64u8 r810.1) rfl rfl (vb (i6 r810.2) rfl rfl (vo 5500 (eA64u8 ((vrep 64 (0 : Int)))) rfl rfl (vs (eA64u8 r810.1) rfl rfl (fun _ => rfl) rfl rfl rfl rfl rfl rfl (vp (i6 r810.2) rfl (nx ⟨[(3, (i6 r4.1)), (4, (ow 4)), (5, (ow 5)), (6, (eSA64u8 r10.1)), (7, (i6 r10.2)), (10, (eSi64 r29.1)), (14, (i6 r46.1)), (16, (eSA64u8 r48.1)), (17, (eSA64u8 r48.2.1)), (40, (i6 x595)), (45, (ow 45)), (46, (i6 r810.2))], [(4, (bk (eA64u8 r4.2.1))), (5, (bk (eA64u8 r4.2.2))), (45, (bk (eA64u8 r810.1)))]⟩ (by kernel_rfl) (sr (vp (i6 1) rfl ?_)))))))))
                                    refine nx ⟨[(3, (i6 r4.1)), (4, (ow 4)), (5, (ow 5)), (6, (eSA64u8 r10.1)), (7, (i6 r10.2)), (10, (eSi64 r29.1)), (14, (i6 r46.1)), (16, (eSA64u8 r48.1)), (17, (eSA64u8 r48.2.1)), (40, (i6 x595)), (45, (ow 45)), (46, (i6 r810.2)), (47, (i6 1))], [(4, (bk (eA64u8 r4.2.1))), (5, (bk (eA64u8 r4.2.2))), (45, (bk (eA64u8 r810.1)))]⟩ (by kernel_rfl) ?_
                                    obtain ⟨y815, hy816, hk817⟩ := bind_some h
                                    clear h
                                    refine a_join (emb := fun (s : Int) => ⟨[(3, (i6 r4.1)), (4, (ow 4)), (5, (ow 5)), (6, (eSA64u8 r10.1)), (7, (i6 r10.2)), (10, (eSi64 r29.1)), (14, (i6 r46.1)), (16, (eSA64u8 r48.1)), (17, (eSA64u8 r48.2.1)), (40, (i6 x595)), (45, (ow 45)), (46, (i6 r810.2)), (47, (i6 s))], [(4, (bk (eA64u8 r4.2.1))), (5, (bk (eA64u8 r4.2.2))), (45, (bk (eA64u8 r810.1)))]⟩) (pre := fun s => s = y815) ?_ ?_
                                    · rintro x814 rfl
                                      have h := hk817
                                      refine a_st (σ' := ⟨[(3, (i6 r4.1)), (4, (ow 4)), (5, (ow 5)), (6, (eSA64u8 r10.1)), (7, (i6 r10.2)), (10, (eSi64 r29.1)), (14, (i6 r46.1)), (16, (eSA64u8 r48.1)), (17, (eSA64u8 r48.2.1)), (40, (i6 x595)), (45, (ow 45)), (46, (i6 r810.2)), (47, (i6 x814))], [(4, (bk (eA64u8 r4.2.1))), (5, (bk (eA64u8 r4.2.2))), (45, (bk (eA64u8 r810.1)))]⟩) (by kernel_rfl) ?_
                                      obtain ⟨y822, hy823, hk824⟩ := bind_some h
                                      clear h
                                      refine a_join (emb := fun (s : Bool) => ⟨[(3, (i6 r4.1)), (4, (ow 4)), (5, (ow 5)), (6, (eSA64u8 r10.1)), (7, (i6 r10.2)), (10, (eSi64 r29.1)), (14, (i6 r46.1)), (16, (eSA64u8 r48.1)), (17, (eSA64u8 r48.2.1)), (40, (i6 x595)), (275, (.bool s))], [(4, (bk (eA64u8 r4.2.1))), (5, (bk (eA64u8 r4.2.2)))]⟩) (pre := fun s => s = y822) ?_ ?_
                                      · rintro x821 rfl
                                        have h := hk824
                                        refine a_st (σ' := ⟨[(3, (i6 r4.1)), (4, (ow 4)), (5, (ow 5)), (6, (eSA64u8 r10.1)), (7, (i6 r10.2)), (10, (eSi64 r29.1)), (14, (i6 r46.1)), (16, (eSA64u8 r48.1)), (17, (eSA64u8 r48.2.1)), (40, (i6 x595)), (275, (.bool x821))], [(4, (bk (eA64u8 r4.2.1))), (5, (bk (eA64u8 r4.2.2)))]⟩) (by kernel_rfl) ?_
                                        cases hb827 : x821
                                        · have h := ite_f hb827 h
                                          refine a_cond_f rfl (a_skip (b_norm ?_))
                                          exact j_leaf () (Option.some.inj h) (by kernel_rfl)
                                        · have h := ite_t hb827 h
                                          refine a_cond_t rfl (sr (vp (.bool false) rfl (nx _ rfl (a_ret (b_ret (t_ret ?_))))))
                                          cases h
                                          have h := hk772
                                          cases h
                                          have h := hX713
                                          refine t_ret (b_ret (t_ret ?_))
                                          cases h
                                          have h := hk478
                                          refine ⟨.inr rfl, ?_⟩
                                          rw [Try.results8]
                                          cases h
                                          exact ⟨_, _, _, _, _, rfl, trivial, .inl ⟨rfl, .inl rfl⟩, rfl, rfl⟩
                                      · have h := hy823
                                        refine a_region (vp (i6 r810.2) rfl (vp (.bool (r810.2 != 0)) rfl (vp (.bool (r810.2 != 0)) rfl ?_)))
                                        cases hb825 : (r810.2 != 0)
                                        · have h := ite_f hb825 h
                                          have hl826 : LdOk [] (eA64u8 r810.1) [] 64 true (eA64u8 r810.1) := (.nil rfl rfl rfl)
                                          refine gq (eA64u8 r810.1) rfl (ld_own (i := ⟨.arr 64 5, 64, 64, (eA64u8 (vrep 64 (0 : Int)))⟩) rfl rfl rfl hl826) hl826.c (gp (i6 x814) rfl rfl (gp (b8 (IntKind.u8.wrap x814)) rfl rfl (gq (eA64u8 ((vset (vrep 64 (0 : Int)) 0 (IntKind.u8.wrap x814)))) rfl rfl ⟨⟨_, rfl, rfl⟩, (all_cons ⟨(Nat.le_of_ble_eq_true rfl), rfl⟩ all_nil)⟩ (gq (.bool ((!decide (r810.1 = ((vset (vrep 64 (0 : Int)) 0 (IntKind.u8.wrap x814))))))) rfl (nea_run (f := (AV.int .u8)) (a := r810.1.1) (b := ((vset (vrep 64 (0 : Int)) 0 (IntKind.u8.wrap x814))).1) rfl rfl (eqb_vec (fun _ _ => eqb_int _ _) r810.1 ((vset (vrep 64 (0 : Int)) 0 (IntKind.u8.wrap x814))))) (cmp_arr (g := 8) (f := (AV.int .u8)) (x := r810.1) (y := ((vset (vrep 64 (0 : Int)) 0 (IntKind.u8.wrap x814)))) rfl rfl rfl (fun _ _ => rfl) (fun _ _ => cmp_int rfl)) (vp (.bool ((!decide (r810.1 = ((vset (vrep 64 (0 : Int)) 0 (IntKind.u8.wrap x814))))))) rfl (a_nil ?_))))))
                                          exact j_leaf ((!decide (r810.1 = ((vset (vrep 64 (0 : Int)) 0 (IntKind.u8.wrap x814)))))) (Option.some.inj h) (by kernel_rfl)
                                        · have h := ite_t hb825 h
                                          refine a_gskip rfl (a_gskip rfl (a_gskip rfl (a_gskip rfl (a_gskip rfl (vp (.bool true) rfl (a_nil ?_))))))
                                          exact j_leaf true (Option.some.inj h) (by kernel_rfl)
                                    · have h := hy816
                                      refine sr (vp (i6 x595) rfl (vq (i6 (Int.tmod x595 2)) rfl (by decide) (vp (.bool (((Int.tmod x595 2) == 0))) rfl (nx ⟨[(3, (i6 r4.1)), (4, (ow 4)), (5, (ow 5)), (6, (eSA64u8 r10.1)), (7, (i6 r10.2)), (10, (eSi64 r29.1)), (14, (i6 r46.1)), (16, (eSA64u8 r48.1)), (17, (eSA64u8 r48.2.1)), (40, (i6 x595)), (45, (ow 45)), (46, (i6 r810.2)), (47, (i6 1)), (264, (.bool (((Int.tmod x595 2) == 0))))], [(4, (bk (eA64u8 r4.2.1))), (5, (bk (eA64u8 r4.2.2))), (45, (bk (eA64u8 r810.1)))]⟩ (by kernel_rfl) ?_))))
                                      cases hb818 : ((Int.tmod x595 2) == 0)
                                      · have h := ite_f hb818 h
                                        refine a_cond_f rfl (a_skip ?_)
                                        exact j_leaf 1 (Option.some.inj h) (by kernel_rfl)
                                      · have h := ite_t hb818 h
                                        refine a_cond_t rfl (a_region (vp (i6 r46.1) rfl (vp (i6 (IntKind.i64.wrap (r46.1 - 1))) rfl (vp (i6 (IntKind.i64.wrap (r46.1 - 1))) rfl (a_nil ?_)))))
                                        exact j_leaf (IntKind.i64.wrap (r46.1 - 1)) (Option.some.inj h) (by kernel_rfl)
                                  · have h := ite_t hb807 h
                                    refine a_cond_t rfl (a_exit (t_exit (b_exit ?_)))
                                    exact j_leaf () (Option.some.inj h) (by kernel_rfl)
                                · have h := hy804
                                  refine a_region (vp (i6 r784.2) rfl (vp (.bool (r784.2 != 0)) rfl (vp (.bool (r784.2 != 0)) rfl ?_)))
                                  cases hb806 : (r784.2 != 0)
                                  · have h := ite_f hb806 h
                                    refine gp (i6 r798.2) rfl rfl (gp (.bool (r798.2 != 0)) rfl rfl (vp (.bool (r798.2 != 0)) rfl (a_nil ?_)))
                                    exact j_leaf (r798.2 != 0) (Option.some.inj h) (by kernel_rfl)
                                  · have h := ite_t hb806 h
                                    refine a_gskip rfl (a_gskip rfl (vp (.bool true) rfl (a_nil ?_)))
                                    exact j_leaf true (Option.some.inj h) (by kernel_rfl)
                      · have h := ite_t hb124 h
                        refine a_cond_t rfl (sr (vp (.bool false) rfl (nx _ rfl (a_ret (t_ret ?_)))))
                        refine ⟨.inr rfl, ?_⟩
                        rw [Try.results8]
                        cases h
                        exact ⟨_, _, _, _, _, rfl, trivial, .inl ⟨rfl, .inl rfl⟩, rfl, rfl⟩
                    · have h := hy119
                      refine a_region (vp (i6 r108.2) rfl (vp (i6 r112.2) rfl (vp (.bool (r108.2 != r112.2)) rfl (vp (.bool (r108.2 != r112.2)) rfl ?_))))
                      cases hb121 : (r108.2 != r112.2)
                      · have h := ite_f hb121 h
                        refine gp (eSi64 r108.1) rfl rfl (gp (eSi64 r112.1) rfl rfl ?_)
                        obtain ⟨r122, hr123, h⟩ := bind_some h
                        refine a_gcall rfl (args := [(eSi64 r108.1), (eSi64 r112.1)]) (u := []) (r := (.bool r122)) rfl rfl (laws_likeInts_ok r108.1 r112.1 r122 hr123) rfl (gp (.bool (!r122)) rfl rfl (vp (.bool (!r122)) rfl (a_nil ?_)))
                        exact j_leaf (!r122) (Option.some.inj h) (by kernel_rfl)
                      · have h := ite_t hb121 h
                        refine a_gskip rfl (a_gskip rfl (a_gskip rfl (a_gskip rfl (vp (.bool true) rfl (a_nil ?_)))))
                        exact j_leaf true (Option.some.inj h) (by kernel_rfl)
                  · have h := ite_t hb101 h
                    refine a_cond_t rfl (sr (vp (.bool false) rfl (nx _ rfl (a_ret (t_ret ?_)))))
                    refine ⟨.inr rfl, ?_⟩
                    rw [Try.results8]
                    cases h
                    exact ⟨_, _, _, _, _, rfl, trivial, .inl ⟨rfl, .inl rfl⟩, rfl, rfl⟩
                · have h := hy93
                  refine a_region (vp (i6 r75.2.2) rfl (vp (i6 r81.2.2) rfl (vp (.bool (r75.2.2 != r81.2.2)) rfl (vp (.bool (r75.2.2 != r81.2.2)) rfl ?_))))
                  cases hb95 : (r75.2.2 != r81.2.2)
                  · have h := ite_f hb95 h
                    have hl96 : LdOk [] (eA64u8 r75.1) [] 64 true (eA64u8 r75.1) := (.nil rfl rfl rfl)
                    refine gq (eA64u8 r75.1) rfl (ld_own (i := ⟨.arr 64 5, 64, 64, (eA64u8 (vrep 64 (0 : Int)))⟩) rfl rfl rfl hl96) hl96.c ?_
                    have hl97 : LdOk [] (eA64u8 r81.1) [] 64 true (eA64u8 r81.1) := (.nil rfl rfl rfl)
                    refine gq (eA64u8 r81.1) rfl (ld_own (i := ⟨.arr 64 5, 64, 64, (eA64u8 (vrep 64 (0 : Int)))⟩) rfl rfl rfl hl97) hl97.c (gq (.bool ((!decide (r75.1 = r81.1)))) rfl (nea_run (f := (AV.int .u8)) (a := r75.1.1) (b := r81.1.1) rfl rfl (eqb_vec (fun _ _ => eqb_int _ _) r75.1 r81.1)) (cmp_arr (g := 8) (f := (AV.int .u8)) (x := r75.1) (y := r81.1) rfl rfl rfl (fun _ _ => rfl) (fun _ _ => cmp_int rfl)) (vp (.bool ((!decide (r75.1 = r81.1)))) rfl (vp (.bool ((!decide (r75.1 = r81.1)))) rfl ?_)))
                    cases hb98 : (!decide (r75.1 = r81.1))
                    · have h := ite_f hb98 h
                      have hl99 : LdOk [] (eA64u8 r75.2.1) [] 64 true (eA64u8 r75.2.1) := (.nil rfl rfl rfl)
                      refine gq (eA64u8 r75.2.1) rfl (ld_own (i := ⟨.arr 64 5, 64, 64, (eA64u8 (vrep 64 (0 : Int)))⟩) rfl rfl rfl hl99) hl99.c ?_
                      have hl100 : LdOk [] (eA64u8 r81.2.1) [] 64 true (eA64u8 r81.2.1) := (.nil rfl rfl rfl)
                      refine gq (eA64u8 r81.2.1) rfl (ld_own (i := ⟨.arr 64 5, 64, 64, (eA64u8 (vrep 64 (0 : Int)))⟩) rfl rfl rfl hl100) hl100.c (gq (.bool ((!decide (r75.2.1 = r81.2.1)))) rfl (nea_run (f := (AV.int .u8)) (a := r75.2.1.1) (b := r81.2.1.1) rfl rfl (eqb_vec (fun _ _ => eqb_int _ _) r75.2.1 r81.2.1)) (cmp_arr (g := 8) (f := (AV.int .u8)) (x := r75.2.1) (y := r81.2.1) rfl rfl rfl (fun _ _ => rfl) (fun _ _ => cmp_int rfl)) (vp (.bool ((!decide (r75.2.1 = r81.2.1)))) rfl (a_nil ?_)))
                      exact j_leaf ((!decide (r75.2.1 = r81.2.1))) (Option.some.inj h) (by kernel_rfl)
                    · have h := ite_t hb98 h
                      refine a_gskip rfl (a_gskip rfl (a_gskip rfl (vp (.bool true) rfl (a_nil ?_))))
                      exact j_leaf true (Option.some.inj h) (by kernel_rfl)
                  · have h := ite_t hb95 h
                    refine a_gskip rfl (a_gskip rfl (a_gskip rfl (vp (.bool true) rfl (vp (.bool true) rfl (a_gskip rfl (a_gskip rfl (a_gskip rfl (vp (.bool true) rfl (a_nil ?_)))))))))
                    exact j_leaf true (Option.some.inj h) (by kernel_rfl)
              · have h := ite_t hb68 h
                refine a_cond_t rfl (sr (vp (.bool false) rfl (nx _ rfl (a_ret (t_ret ?_)))))
                refine ⟨.inr rfl, ?_⟩
                rw [Try.results8]
                cases h
                exact ⟨_, _, _, _, _, rfl, trivial, .inl ⟨rfl, .inl rfl⟩, rfl, rfl⟩
            · have h := hy60
              refine a_region (vp (i6 r48.2.2) rfl (vp (i6 r50.2.2) rfl (vp (.bool (r48.2.2 != r50.2.2)) rfl (vp (.bool (r48.2.2 != r50.2.2)) rfl ?_))))
              cases hb62 : (r48.2.2 != r50.2.2)
              · have h := ite_f hb62 h
                refine gp (eSA64u8 r48.1) rfl rfl (gp (eSA64u8 r50.1) rfl rfl ?_)
                obtain ⟨r63, hr64, h⟩ := bind_some h
                refine a_gcall rfl (args := [(eSA64u8 r48.1), (eSA64u8 r50.1)]) (u := []) (r := (.bool r63)) rfl rfl (laws_polys9_ok r48.1 r50.1 r63 hr64) rfl (gp (.bool (!r63)) rfl rfl (vp (.bool (!r63)) rfl (vp (.bool (!r63)) rfl ?_)))
                cases hb65 : (!r63)
                · have h := ite_f hb65 h
                  refine gp (eSA64u8 r48.2.1) rfl rfl (gp (eSA64u8 r50.2.1) rfl rfl ?_)
                  obtain ⟨r66, hr67, h⟩ := bind_some h
                  refine a_gcall rfl (args := [(eSA64u8 r48.2.1), (eSA64u8 r50.2.1)]) (u := []) (r := (.bool r66)) rfl rfl (laws_polys9_ok r48.2.1 r50.2.1 r66 hr67) rfl (gp (.bool (!r66)) rfl rfl (vp (.bool (!r66)) rfl (a_nil ?_)))
                  exact j_leaf (!r66) (Option.some.inj h) (by kernel_rfl)
                · have h := ite_t hb65 h
                  refine a_gskip rfl (a_gskip rfl (a_gskip rfl (a_gskip rfl (vp (.bool true) rfl (a_nil ?_)))))
                  exact j_leaf true (Option.some.inj h) (by kernel_rfl)
              · have h := ite_t hb62 h
                refine a_gskip rfl (a_gskip rfl (a_gskip rfl (a_gskip rfl (vp (.bool true) rfl (vp (.bool true) rfl (a_gskip rfl (a_gskip rfl (a_gskip rfl (a_gskip rfl ?_)))))))))
                refine vp (.bool true) rfl (a_nil ?_)
                exact j_leaf true (Option.some.inj h) (by kernel_rfl)
          · have h := ite_t hb45 h
            refine a_cond_t rfl (sr (vp (.bool false) rfl (nx _ rfl (a_ret (t_ret ?_)))))
            refine ⟨.inr rfl, ?_⟩
            rw [Try.results8]
            cases h
            exact ⟨_, _, _, _, _, rfl, trivial, .inl ⟨rfl, .inl rfl⟩, rfl, rfl⟩
        · have h := hy40
          refine a_region (vp (i6 r29.2) rfl (vp (i6 r33.2) rfl (vp (.bool (r29.2 != r33.2)) rfl (vp (.bool (r29.2 != r33.2)) rfl ?_))))
          cases hb42 : (r29.2 != r33.2)
          · have h := ite_f hb42 h
            refine gp (eSi64 r29.1) rfl rfl (gp (eSi64 r33.1) rfl rfl ?_)
            obtain ⟨r43, hr44, h⟩ := bind_some h
            refine a_gcall rfl (args := [(eSi64 r29.1), (eSi64 r33.1)]) (u := []) (r := (.bool r43)) rfl rfl (laws_likeInts_ok r29.1 r33.1 r43 hr44) rfl (gp (.bool (!r43)) rfl rfl (vp (.bool (!r43)) rfl (a_nil ?_)))
            exact j_leaf (!r43) (Option.some.inj h) (by kernel_rfl)
          · have h := ite_t hb42 h
            refine a_gskip rfl (a_gskip rfl (a_gskip rfl (a_gskip rfl (vp (.bool true) rfl (a_nil ?_)))))
            exact j_leaf true (Option.some.inj h) (by kernel_rfl)
      · have h := ite_t hb26 h
        refine a_cond_t rfl (sr (vp (.bool false) rfl (nx _ rfl (a_ret (t_ret ?_)))))
        refine ⟨.inr rfl, ?_⟩
        rw [Try.results8]
        cases h
        exact ⟨_, _, _, _, _, rfl, trivial, .inl ⟨rfl, .inl rfl⟩, rfl, rfl⟩
    · have h := hy21
      refine a_region (vp (i6 r10.2) rfl (vp (i6 r14.2) rfl (vp (.bool (r10.2 != r14.2)) rfl (vp (.bool (r10.2 != r14.2)) rfl ?_))))
      cases hb23 : (r10.2 != r14.2)
      · have h := ite_f hb23 h
        refine gp (eSA64u8 r10.1) rfl rfl (gp (eSA64u8 r14.1) rfl rfl ?_)
        obtain ⟨r24, hr25, h⟩ := bind_some h
        refine a_gcall rfl (args := [(eSA64u8 r10.1), (eSA64u8 r14.1)]) (u := []) (r := (.bool r24)) rfl rfl (laws_polys9_ok r10.1 r14.1 r24 hr25) rfl (gp (.bool (!r24)) rfl rfl (vp (.bool (!r24)) rfl (a_nil ?_)))
        exact j_leaf (!r24) (Option.some.inj h) (by kernel_rfl)
      · have h := ite_t hb23 h
        refine a_gskip rfl (a_gskip rfl (a_gskip rfl (a_gskip rfl (vp (.bool true) rfl (a_nil ?_)))))
        exact j_leaf true (Option.some.inj h) (by kernel_rfl)
  · have h := ite_t hb3 h
    refine a_cond_t rfl (sr (vp (.bool true) rfl (nx _ rfl (a_ret (t_ret ?_)))))
    refine ⟨.inr rfl, ?_⟩
    rw [Try.results8]
    cases h
    exact ⟨_, _, _, _, _, rfl, trivial, .inl ⟨rfl, .inl rfl⟩, rfl, rfl⟩
end Go.Proofs.Ytkbnegemdlnncaa
