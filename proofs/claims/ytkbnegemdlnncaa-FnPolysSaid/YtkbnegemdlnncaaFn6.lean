/- Functions of the program: plain Lean functions, and that the program computes them. Printed by gen.py. -/
import Derived.Test.YtkbnegemdlnncaaFnT
import Derived.Test.YtkbnegemdlnncaaFn1
import Derived.Test.YtkbnegemdlnncaaFn2
import Derived.Test.YtkbnegemdlnncaaFn3
import Derived.Test.YtkbnegemdlnncaaFn4
import Derived.Test.YtkbnegemdlnncaaFn5
namespace Go.Proofs.Ytkbnegemdlnncaa
open Go.Abs Go.Proofs
set_option linter.unusedSimpArgs false
set_option linter.unusedVariables false
set_option maxHeartbeats 16000000
attribute [local irreducible] Abs.acode Abs.aops Abs.aopsT Abs.thenK Abs.blockK

def laws_FnPolys_c : ACode := (.seq (.region 0 [q 2 (.asg 0 (.const (.bool false)) 4)] false) (.seq (.seq (.region 1 [q 57 (.mov (t 0)), q 58 (.call 0 (.func 10) [(t 57)])] false) (.cond (t 58) (.seq (.region 2 [q 2 (.asg 0 (.const (.bool true)) 4)] false) .ret) .skip)) (.seq (.region 3 [q 60 (.mov (t 0)), q 61 (.call 0 (.func 11) [(t 60)]), q 59 (.mov (t 61)), q 62 (.extract (t 59) 0), q 63 (.extract (t 59) 1), q 64 (.extract (t 59) 2), q 4 (.alloc 25), q 5 (.alloc 25), q 3 (.asg 0 (t 62) 2), ⟨none, .store 25 (t 4) (t 63), none, []⟩, ⟨none, .store 25 (t 5) (t 64), none, []⟩] false) (.seq (.region 4 [q 66 (.mov (t 3)), q 67 (.load 25 (t 4)), q 68 (.load 25 (t 5)), q 69 (.call 0 (.func 12) [(t 66), (t 67), (t 68)]), q 65 (.mov (t 69)), q 70 (.extract (t 65) 0), q 71 (.extract (t 65) 1), q 6 (.alloc 25), ⟨none, .store 25 (t 6) (t 70), none, []⟩, q 7 (.asg 0 (t 71) 2)] false) (.seq (.region 5 [q 73 (.mov (t 3)), q 74 (.load 25 (t 4)), q 75 (.load 25 (t 5)), q 76 (.call 0 (.func 13) [(t 73), (t 74), (t 75)]), q 72 (.mov (t 76)), q 77 (.extract (t 72) 0), q 78 (.extract (t 72) 1), q 8 (.alloc 25), ⟨none, .store 25 (t 8) (t 77), none, []⟩, q 9 (.asg 0 (t 78) 2)] false) (.seq (.seq (.region 6 [q 79 (.mov (t 7)), q 80 (.mov (t 9)), ⟨some 81, .bin .neq 2 (t 79) (t 80), none, [0, 1]⟩, ⟨some 82, .mov (t 81), none, [2]⟩, ⟨some 83, .load 25 (t 6), some (82, false), [3]⟩, ⟨some 84, .load 25 (t 8), some (82, false), [3]⟩, ⟨some 85, .bin .neq 25 (t 83) (t 84), some (82, false), [4, 5, 3]⟩, ⟨some 86, .pick (t 82) (.const (.bool true)) (t 85), none, [3, 6]⟩, ⟨some 87, .mov (t 86), none, [7, 3]⟩, ⟨some 88, .mov (t 3), some (87, false), [8]⟩, ⟨some 89, .load 25 (t 4), some (87, false), [8]⟩, ⟨some 90, .call 0 (.func 14) [(t 88), (t 89)], some (87, false), [9, 10, 8, 8]⟩, ⟨some 91, .mov (t 3), some (87, false), [8]⟩, ⟨some 92, .load 25 (t 4), some (87, false), [8]⟩, ⟨some 93, .call 0 (.func 15) [(t 91), (t 92)], some (87, false), [12, 13, 11, 8]⟩, ⟨some 94, .bin .neq 4 (t 90) (t 93), some (87, false), [11, 14, 8]⟩, ⟨some 95, .pick (t 87) (.const (.bool true)) (t 94), none, [8, 15]⟩] true) (.cond (t 95) (.seq (.region 7 [q 2 (.asg 0 (.const (.bool false)) 4)] false) .ret) .skip)) (.seq (.seq (.region 8 [q 96 (.mov (t 7)), q 97 (.bin .eql 2 (t 96) (.const (.int .i64 0)))] false) (.cond (t 97) (.seq (.region 9 [q 99 (.mov (t 3)), q 100 (.load 25 (t 5)), q 101 (.load 25 (t 4)), q 102 (.call 0 (.func 12) [(t 99), (t 100), (t 101)]), q 98 (.mov (t 102)), q 103 (.extract (t 98) 0), q 104 (.extract (t 98) 1), q 10 (.alloc 25), ⟨none, .store 25 (t 10) (t 103), none, []⟩, q 11 (.asg 0 (t 104) 2)] false) (.seq (.region 10 [q 105 (.load 25 (t 5)), q 106 (.call 0 (.func 16) [(t 105), (.const (.int .i64 8))]), q 12 (.alloc 25), ⟨none, .store 25 (t 12) (t 106), none, []⟩] false) (.seq (.region 11 [q 108 (.mov (t 3)), q 109 (.load 25 (t 5)), q 110 (.load 25 (t 12)), q 111 (.call 0 (.func 17) [(t 108), (t 109), (t 110)]), q 107 (.mov (t 111)), q 112 (.extract (t 107) 0), q 113 (.extract (t 107) 1), q 13 (.alloc 25), ⟨none, .store 25 (t 13) (t 112), none, []⟩, q 14 (.asg 0 (t 113) 2)] false) (.seq (.region 12 [q 115 (.mov (t 3)), q 116 (.load 25 (t 4)), q 117 (.load 25 (t 13)), q 118 (.call 0 (.func 12) [(t 115), (t 116), (t 117)]), q 114 (.mov (t 118)), q 119 (.extract (t 114) 0), q 120 (.extract (t 114) 1), q 15 (.alloc 25), ⟨none, .store 25 (t 15) (t 119), none, []⟩, q 16 (.asg 0 (t 120) 2)] false) (.seq (.region 13 [q 122 (.mov (t 3)), q 123 (.load 25 (t 4)), q 124 (.load 25 (t 12)), q 125 (.call 0 (.func 12) [(t 122), (t 123), (t 124)]), q 121 (.mov (t 125)), q 126 (.extract (t 121) 0), q 127 (.extract (t 121) 1), q 17 (.alloc 25), ⟨none, .store 25 (t 17) (t 126), none, []⟩, q 18 (.asg 0 (t 127) 2)] false) (.seq (.region 14 [q 129 (.mov (t 3)), q 130 (.load 25 (t 6)), q 131 (.load 25 (t 17)), q 132 (.call 0 (.func 17) [(t 129), (t 130), (t 131)]), q 128 (.mov (t 132)), q 133 (.extract (t 128) 0), q 134 (.extract (t 128) 1), q 19 (.alloc 25), ⟨none, .store 25 (t 19) (t 133), none, []⟩, q 20 (.asg 0 (t 134) 2)] false) (.seq (.region 15 [q 135 (.mov (t 11)), q 136 (.bin .neq 2 (t 135) (.const (.int .i64 0))), q 137 (.mov (t 136)), ⟨some 138, .mov (t 14), some (137, false), []⟩, ⟨some 139, .bin .neq 2 (t 138) (.const (.int .i64 0)), some (137, false), []⟩, q 140 (.pick (t 137) (.const (.bool true)) (t 139)), q 141 (.mov (t 140)), ⟨some 142, .load 25 (t 10), some (141, false), []⟩, ⟨some 143, .load 25 (t 6), some (141, false), []⟩, ⟨some 144, .bin .neq 25 (t 142) (t 143), some (141, false), []⟩, q 145 (.pick (t 141) (.const (.bool true)) (t 144)), q 146 (.mov (t 145)), ⟨some 147, .mov (t 16), some (146, false), []⟩, ⟨some 148, .bin .eql 2 (t 147) (.const (.int .i64 0)), some (146, false), []⟩, ⟨some 149, .mov (t 148), some (146, false), []⟩, ⟨some 150, .mov (t 18), some (149, true), []⟩, ⟨some 151, .bin .eql 2 (t 150) (.const (.int .i64 0)), some (149, true), []⟩, ⟨some 152, .pick (t 149) (t 151) (.const (.bool false)), some (146, false), []⟩, ⟨some 153, .mov (t 152), some (146, false), []⟩, ⟨some 154, .mov (t 20), some (153, true), []⟩, ⟨some 155, .bin .neq 2 (t 154) (.const (.int .i64 0)), some (153, true), []⟩, ⟨some 156, .mov (t 155), some (153, true), []⟩, ⟨some 157, .load 25 (t 15), some (156, false), []⟩, ⟨some 158, .load 25 (t 19), some (156, false), []⟩, ⟨some 159, .bin .neq 25 (t 157) (t 158), some (156, false), []⟩, ⟨some 160, .pick (t 156) (.const (.bool true)) (t 159), some (153, true), []⟩, ⟨some 161, .pick (t 153) (t 160) (.const (.bool false)), some (146, false), []⟩, q 162 (.pick (t 146) (.const (.bool true)) (t 161))] false) (.cond (t 162) (.seq (.region 16 [q 2 (.asg 0 (.const (.bool false)) 4)] false) .ret) .skip)))))))) .skip)) (.seq (.region 17 [q 164 (.mov (t 0)), q 165 (.call 0 (.func 18) [(t 164)]), q 163 (.mov (t 165)), q 166 (.extract (t 163) 0), q 167 (.extract (t 163) 1), q 168 (.extract (t 163) 2), q 22 (.alloc 25), q 23 (.alloc 25), q 21 (.asg 0 (t 166) 2), ⟨none, .store 25 (t 22) (t 167), none, []⟩, ⟨none, .store 25 (t 23) (t 168), none, []⟩] false) (.seq (.region 18 [q 170 (.mov (t 21)), q 171 (.load 25 (t 22)), q 172 (.load 25 (t 23)), q 173 (.call 0 (.func 19) [(t 170), (t 171), (t 172)]), q 169 (.mov (t 173)), q 174 (.extract (t 169) 0), q 175 (.extract (t 169) 1), q 176 (.extract (t 169) 2), q 24 (.alloc 25), q 25 (.alloc 25), ⟨none, .store 25 (t 24) (t 174), none, []⟩, ⟨none, .store 25 (t 25) (t 175), none, []⟩, q 26 (.asg 0 (t 176) 2)] false) (.seq (.region 19 [q 178 (.mov (t 21)), q 179 (.load 25 (t 22)), q 180 (.load 25 (t 23)), q 181 (.call 0 (.func 20) [(t 178), (t 179), (t 180)]), q 177 (.mov (t 181)), q 182 (.extract (t 177) 0), q 183 (.extract (t 177) 1), q 184 (.extract (t 177) 2), q 27 (.alloc 25), q 28 (.alloc 25), ⟨none, .store 25 (t 27) (t 182), none, []⟩, ⟨none, .store 25 (t 28) (t 183), none, []⟩, q 29 (.asg 0 (t 184) 2)] false) (.seq (.seq (.region 20 [q 185 (.mov (t 26)), q 186 (.mov (t 29)), q 187 (.bin .neq 2 (t 185) (t 186)), q 188 (.mov (t 187)), ⟨some 189, .load 25 (t 24), some (188, false), []⟩, ⟨some 190, .load 25 (t 27), some (188, false), []⟩, ⟨some 191, .bin .neq 25 (t 189) (t 190), some (188, false), []⟩, q 192 (.pick (t 188) (.const (.bool true)) (t 191)), q 193 (.mov (t 192)), ⟨some 194, .load 25 (t 25), some (193, false), []⟩, ⟨some 195, .load 25 (t 28), some (193, false), []⟩, ⟨some 196, .bin .neq 25 (t 194) (t 195), some (193, false), []⟩, q 197 (.pick (t 193) (.const (.bool true)) (t 196))] false) (.cond (t 197) (.seq (.region 21 [q 2 (.asg 0 (.const (.bool false)) 4)] false) .ret) .skip)) (.seq (.seq (.region 22 [q 198 (.mov (t 26)), q 199 (.bin .eql 2 (t 198) (.const (.int .i64 0)))] false) (.cond (t 199) (.seq (.region 23 [q 201 (.mov (t 21)), q 202 (.load 25 (t 24)), q 203 (.load 25 (t 23)), q 204 (.call 0 (.func 12) [(t 201), (t 202), (t 203)]), q 200 (.mov (t 204)), q 205 (.extract (t 200) 0), q 206 (.extract (t 200) 1), q 30 (.alloc 25), ⟨none, .store 25 (t 30) (t 205), none, []⟩, q 31 (.asg 0 (t 206) 2)] false) (.seq (.region 24 [q 208 (.mov (t 21)), q 209 (.load 25 (t 30)), q 210 (.load 25 (t 25)), q 211 (.call 0 (.func 17) [(t 208), (t 209), (t 210)]), q 207 (.mov (t 211)), q 212 (.extract (t 207) 0), q 213 (.extract (t 207) 1), q 32 (.alloc 25), ⟨none, .store 25 (t 32) (t 212), none, []⟩, q 33 (.asg 0 (t 213) 2)] false) (.seq (.region 25 [q 215 (.mov (t 21)), q 216 (.load 25 (t 25)), q 217 (.call 0 (.func 21) [(t 215), (t 216)]), q 214 (.mov (t 217)), q 218 (.extract (t 214) 0), q 219 (.extract (t 214) 1), q 34 (.asg 0 (t 218) 2), q 35 (.asg 0 (t 219) 2)] false) (.seq (.region 26 [q 221 (.mov (t 21)), q 222 (.load 25 (t 23)), q 223 (.call 0 (.func 21) [(t 221), (t 222)]), q 220 (.mov (t 223)), q 224 (.extract (t 220) 0), q 225 (.extract (t 220) 1), q 36 (.asg 0 (t 224) 2), q 37 (.asg 0 (t 225) 2)] false) (.seq (.region 27 [q 226 (.mov (t 31)), q 227 (.bin .neq 2 (t 226) (.const (.int .i64 0))), q 228 (.mov (t 227)), ⟨some 229, .mov (t 33), some (228, false), []⟩, ⟨some 230, .bin .neq 2 (t 229) (.const (.int .i64 0)), some (228, false), []⟩, q 231 (.pick (t 228) (.const (.bool true)) (t 230)), q 232 (.mov (t 231)), ⟨some 233, .mov (t 35), some (232, false), []⟩, ⟨some 234, .bin .neq 2 (t 233) (.const (.int .i64 0)), some (232, false), []⟩, q 235 (.pick (t 232) (.const (.bool true)) (t 234)), q 236 (.mov (t 235)), ⟨some 237, .mov (t 37), some (236, false), []⟩, ⟨some 238, .bin .neq 2 (t 237) (.const (.int .i64 0)), some (236, false), []⟩, q 239 (.pick (t 236) (.const (.bool true)) (t 238)), q 240 (.mov (t 239)), ⟨some 241, .load 25 (t 32), some (240, false), []⟩, ⟨some 242, .load 25 (t 22), some (240, false), []⟩, ⟨some 243, .bin .neq 25 (t 241) (t 242), some (240, false), []⟩, q 244 (.pick (t 240) (.const (.bool true)) (t 243)), q 245 (.mov (t 244)), ⟨some 246, .mov (t 34), some (245, false), []⟩, ⟨some 247, .mov (t 36), some (245, false), []⟩, ⟨some 248, .bin .geq 2 (t 246) (t 247), some (245, false), []⟩, q 249 (.pick (t 245) (.const (.bool true)) (t 248))] false) (.cond (t 249) (.seq (.region 28 [q 2 (.asg 0 (.const (.bool false)) 4)] false) .ret) .skip)))))) .skip)) (.seq (.region 29 [q 251 (.mov (t 0)), q 252 (.call 0 (.func 22) [(t 251)]), q 250 (.mov (t 252)), q 253 (.extract (t 250) 0), q 254 (.extract (t 250) 1), q 39 (.alloc 25), q 38 (.asg 0 (t 253) 2), ⟨none, .store 25 (t 39) (t 254), none, []⟩] false) (.seq (.region 30 [q 256 (.mov (t 38)), q 257 (.load 25 (t 39)), q 258 (.call 0 (.func 23) [(t 256), (t 257)]), q 255 (.mov (t 258)), q 259 (.extract (t 255) 0), q 260 (.extract (t 255) 1), q 40 (.asg 0 (t 259) 2), q 41 (.asg 0 (t 260) 2)] false) (.seq (.region 31 [q 262 (.mov (t 38)), q 263 (.load 25 (t 39)), q 264 (.call 0 (.func 24) [(t 262), (t 263)]), q 261 (.mov (t 264)), q 265 (.extract (t 261) 0), q 266 (.extract (t 261) 1), q 42 (.asg 0 (t 265) 2), q 43 (.asg 0 (t 266) 2)] false) (.seq (.seq (.region 32 [q 267 (.mov (t 41)), q 268 (.mov (t 43)), q 269 (.bin .neq 2 (t 267) (t 268)), q 270 (.mov (t 269)), ⟨some 271, .mov (t 40), some (270, false), []⟩, ⟨some 272, .mov (t 42), some (270, false), []⟩, ⟨some 273, .bin .neq 2 (t 271) (t 272), some (270, false), []⟩, q 274 (.pick (t 270) (.const (.bool true)) (t 273))] false) (.cond (t 274) (.seq (.region 33 [q 2 (.asg 0 (.const (.bool false)) 4)] false) .ret) .skip)) (.seq (.seq (.region 34 [q 275 (.mov (t 41)), q 276 (.bin .eql 2 (t 275) (.const (.int .i64 0)))] false) (.cond (t 276) (.seq (.region 35 [q 278 (.mov (t 38)), q 279 (.mov (t 40)), q 280 (.call 0 (.func 25) [(t 278), (t 279)]), q 277 (.mov (t 280)), q 281 (.extract (t 277) 0), q 282 (.extract (t 277) 1), q 44 (.alloc 25), ⟨none, .store 25 (t 44) (t 281), none, []⟩, q 45 (.asg 0 (t 282) 2)] false) (.seq (.region 36 [q 284 (.mov (t 38)), q 285 (.load 25 (t 39)), q 286 (.call 0 (.func 26) [(t 284), (t 285)]), q 283 (.mov (t 286)), q 287 (.extract (t 283) 0), q 288 (.extract (t 283) 1), q 46 (.asg 0 (t 287) 9), q 47 (.asg 0 (t 288) 2)] false) (.seq (.region 37 [q 290 (.mov (t 38)), q 291 (.mov (t 46)), q 292 (.call 0 (.func 27) [(t 290), (t 291)]), q 289 (.mov (t 292)), q 293 (.extract (t 289) 0), q 294 (.extract (t 289) 1), q 48 (.alloc 25), ⟨none, .store 25 (t 48) (t 293), none, []⟩, q 49 (.asg 0 (t 294) 2)] false) (.seq (.region 38 [q 295 (.mov (t 45)), q 296 (.bin .neq 2 (t 295) (.const (.int .i64 0))), q 297 (.mov (t 296)), ⟨some 298, .mov (t 47), some (297, false), []⟩, ⟨some 299, .bin .neq 2 (t 298) (.const (.int .i64 0)), some (297, false), []⟩, q 300 (.pick (t 297) (.const (.bool true)) (t 299)), q 301 (.mov (t 300)), ⟨some 302, .mov (t 49), some (301, false), []⟩, ⟨some 303, .bin .neq 2 (t 302) (.const (.int .i64 0)), some (301, false), []⟩, q 304 (.pick (t 301) (.const (.bool true)) (t 303)), q 305 (.mov (t 304)), ⟨some 306, .load 25 (t 44), some (305, false), []⟩, ⟨some 307, .load 25 (t 39), some (305, false), []⟩, ⟨some 308, .bin .neq 25 (t 306) (t 307), some (305, false), []⟩, q 309 (.pick (t 305) (.const (.bool true)) (t 308)), q 310 (.mov (t 309)), ⟨some 311, .load 25 (t 48), some (310, false), []⟩, ⟨some 312, .load 25 (t 39), some (310, false), []⟩, ⟨some 313, .bin .neq 25 (t 311) (t 312), some (310, false), []⟩, q 314 (.pick (t 310) (.const (.bool true)) (t 313))] false) (.cond (t 314) (.seq (.region 39 [q 2 (.asg 0 (.const (.bool false)) 4)] false) .ret) .skip))))) .skip)) (.seq (.region 40 [q 316 (.mov (t 0)), q 317 (.call 0 (.func 28) [(t 316)]), q 315 (.mov (t 317)), q 318 (.extract (t 315) 0), q 319 (.extract (t 315) 1), q 320 (.extract (t 315) 2), q 51 (.alloc 25), q 52 (.alloc 25), q 50 (.asg 0 (t 318) 2), ⟨none, .store 25 (t 51) (t 319), none, []⟩, ⟨none, .store 25 (t 52) (t 320), none, []⟩] false) (.seq (.region 41 [q 322 (.mov (t 50)), q 323 (.load 25 (t 51)), q 324 (.load 25 (t 52)), q 325 (.call 0 (.func 17) [(t 322), (t 323), (t 324)]), q 321 (.mov (t 325)), q 326 (.extract (t 321) 0), q 327 (.extract (t 321) 1), q 53 (.alloc 25), ⟨none, .store 25 (t 53) (t 326), none, []⟩, q 54 (.asg 0 (t 327) 2)] false) (.seq (.region 42 [q 329 (.mov (t 50)), q 330 (.load 25 (t 51)), q 331 (.load 25 (t 52)), q 332 (.call 0 (.func 29) [(t 329), (t 330), (t 331)]), q 328 (.mov (t 332)), q 333 (.extract (t 328) 0), q 334 (.extract (t 328) 1), q 55 (.alloc 25), ⟨none, .store 25 (t 55) (t 333), none, []⟩, q 56 (.asg 0 (t 334) 2)] false) (.seq (.region 43 [q 335 (.mov (t 54)), q 336 (.mov (t 56)), q 337 (.bin .eql 2 (t 335) (t 336)), q 338 (.mov (t 337)), ⟨some 339, .load 25 (t 53), some (338, true), []⟩, ⟨some 340, .load 25 (t 55), some (338, true), []⟩, ⟨some 341, .bin .eql 25 (t 339) (t 340), some (338, true), []⟩, q 342 (.pick (t 338) (t 341) (.const (.bool false))), q 2 (.asg 0 (t 342) 4)] false) .ret)))))))))))))))))))))
def laws_FnPolys_L : Live := [(0, [0]), (1, [0]), (2, []), (3, [0]), (4, [0, 3, 4, 5]), (5, [0, 3, 4, 5, 6, 7]), (6, [0, 3, 4, 5, 6, 7, 8, 9]), (7, []), (8, [0, 3, 4, 5, 6, 7]), (9, [0, 3, 4, 5, 6]), (10, [0, 3, 4, 5, 6, 10, 11]), (11, [0, 3, 4, 5, 6, 10, 11, 12]), (12, [0, 3, 4, 6, 10, 11, 12, 13, 14]), (13, [0, 3, 4, 6, 10, 11, 12, 14, 15, 16]), (14, [0, 3, 6, 10, 11, 14, 15, 16, 17, 18]), (15, [0, 6, 10, 11, 14, 15, 16, 18, 19, 20]), (16, []), (17, [0]), (18, [0, 21, 22, 23]), (19, [0, 21, 22, 23, 24, 25, 26]), (20, [0, 21, 22, 23, 24, 25, 26, 27, 28, 29]), (21, []), (22, [0, 21, 22, 23, 24, 25, 26]), (23, [0, 21, 22, 23, 24, 25]), (24, [0, 21, 22, 23, 25, 30, 31]), (25, [0, 21, 22, 23, 25, 31, 32, 33]), (26, [0, 21, 22, 23, 31, 32, 33, 34, 35]), (27, [0, 22, 31, 32, 33, 34, 35, 36, 37]), (28, []), (29, [0]), (30, [0, 38, 39]), (31, [0, 38, 39, 40, 41]), (32, [0, 38, 39, 40, 41, 42, 43]), (33, []), (34, [0, 38, 39, 40, 41]), (35, [0, 38, 39, 40]), (36, [0, 38, 39, 44, 45]), (37, [0, 38, 39, 44, 45, 46, 47]), (38, [0, 39, 44, 45, 47, 48, 49]), (39, []), (40, [0]), (41, [50, 51, 52]), (42, [50, 51, 52, 53, 54]), (43, [53, 54, 55, 56]), (100058, [0, 58]), (100095, [0, 3, 4, 5, 6, 7, 95]), (100097, [0, 3, 4, 5, 6, 97]), (100162, [0, 162]), (100197, [0, 21, 22, 23, 24, 25, 26, 197]), (100199, [0, 21, 22, 23, 24, 25, 199]), (100249, [0, 249]), (100274, [0, 38, 39, 40, 41, 274]), (100276, [0, 38, 39, 40, 276]), (100314, [0, 314])]
noncomputable def laws_FnPolys (a0 : (List Int)) : Option Bool :=
  (Option.bind (laws_big a0) fun r1 => (if r1 then (some true) else (Option.bind (spec_DrawMultiplyPolys a0) fun r4 => (Option.bind (impl_MultiplyPolys r4.1 r4.2.1 r4.2.2) fun r10 => (Option.bind (spec_MultiplyPolys r4.1 r4.2.1 r4.2.2) fun r15 => (Option.bind (α := Bool) ((if (r10.2 != r15.2) then (some true) else (if (!decide (r10.1 = r15.1)) then (some true) else (Option.bind (impl_IsPoly r4.1 r4.2.1) fun r57 => (Option.bind (spec_IsPoly r4.1 r4.2.1) fun r60 => (some ((!(r57 == r60))))))))) fun x38 => (if x38 then (some false) else (Option.bind (α := (Unit ⊕ Bool)) ((if (r10.2 == 0) then (Option.bind (impl_MultiplyPolys r4.1 r4.2.2 r4.2.1) fun r124 => (Option.bind (laws_small5 r4.2.2 8) fun r128 => (Option.bind (impl_AddPolys r4.1 r4.2.2 r128) fun r133 => (Option.bind (impl_MultiplyPolys r4.1 r4.2.1 r133.1) fun r138 => (Option.bind (impl_MultiplyPolys r4.1 r4.2.1 r128) fun r143 => (Option.bind (impl_AddPolys r4.1 r10.1 r143.1) fun r148 => (Option.bind (α := Bool) ((if (r124.2 != 0) then (some true) else (if (r133.2 != 0) then (some true) else (if (!decide (r124.1 = r10.1)) then (some true) else (if (r138.2 == 0) then (if (r143.2 == 0) then (if (r148.2 != 0) then (some true) else (some ((!decide (r138.1 = r148.1))))) else (some false)) else (some false)))))) fun x161 => (if x161 then (some (.inr false)) else (some ((.inl ()))))))))))) else (some ((.inl ()))))) fun z => match z with | .inl _ => (Option.bind (spec_DrawDividePolys a0) fun r176 => (Option.bind (impl_DividePolys r176.1 r176.2.1 r176.2.2) fun r182 => (Option.bind (spec_DividePolys r176.1 r176.2.1 r176.2.2) fun r188 => (Option.bind (α := Bool) ((if (r182.2.2 != r188.2.2) then (some true) else (if (!decide (r182.1 = r188.1)) then (some true) else (some ((!decide (r182.2.1 = r188.2.1))))))) fun x198 => (if x198 then (some false) else (Option.bind (α := (Unit ⊕ Bool)) ((if (r182.2.2 == 0) then (Option.bind (impl_MultiplyPolys r176.1 r182.1 r176.2.2) fun r251 => (Option.bind (impl_AddPolys r176.1 r251.1 r182.2.1) fun r256 => (Option.bind (impl_DegreeOf r176.1 r182.2.1) fun r260 => (Option.bind (impl_DegreeOf r176.1 r176.2.2) fun r263 => (Option.bind (α := Bool) ((if (r251.2 != 0) then (some true) else (if (r256.2 != 0) then (some true) else (if (r260.2 != 0) then (some true) else (if (r263.2 != 0) then (some true) else (if (!decide (r256.1 = r176.2.1)) then (some true) else (some ((decide (r260.1 ≥ r263.1)))))))))) fun x272 => (if x272 then (some (.inr false)) else (some ((.inl ()))))))))) else (some ((.inl ()))))) fun z => match z with | .inl _ => (Option.bind (spec_DrawNumberOfPoly a0) fun r284 => (Option.bind (impl_NumberOfPoly r284.1 r284.2) fun r288 => (Option.bind (spec_NumberOfPoly r284.1 r284.2) fun r291 => (Option.bind (α := Bool) ((if (r288.2 != r291.2) then (some true) else (some (r288.1 != r291.1)))) fun x294 => (if x294 then (some false) else (Option.bind (α := (Unit ⊕ Bool)) ((if (r288.2 == 0) then (Option.bind (impl_PolyOfNumber r284.1 r288.1) fun r335 => (Option.bind (impl_PolyText r284.1 r284.2) fun r339 => (Option.bind (impl_ParsePoly r284.1 r339.1) fun r341 => (Option.bind (α := Bool) ((if (r335.2 != 0) then (some true) else (if (r339.2 != 0) then (some true) else (if (r341.2 != 0) then (some true) else (if (!decide (r335.1 = r284.2)) then (some true) else (some ((!decide (r341.1 = r284.2))))))))) fun x352 => (if x352 then (some (.inr false)) else (some ((.inl ())))))))) else (some ((.inl ()))))) fun z => match z with | .inl _ => (Option.bind (spec_DrawAddPolys a0) fun r365 => (Option.bind (impl_AddPolys r365.1 r365.2.1 r365.2.2) fun r371 => (Option.bind (spec_AddPolys r365.1 r365.2.1 r365.2.2) fun r376 => (if (r371.2 == r376.2) then (some ((decide (r371.1 = r376.1)))) else (some false))))) | .inr r382 => (some r382))))))) | .inr r383 => (some r383))))))) | .inr r384 => (some r384)))))))))
theorem laws_FnPolys_ok (a0 : (List Int)) (r : Bool) (h : laws_FnPolys a0 = some r) : Den Try.prog 3 [(eSu8 a0)] { r := (.bool r) } := by
  refine den_of (rs := [(.bool r)]) (ac := laws_FnPolys_c) (L := laws_FnPolys_L) (n := 343) (m := []) (c := Try.f3.body.getD .skip) good Try.func3 (by kernel_rfl) (by kernel_rfl) Try.ntmps3 rfl rfl (by kernel_rfl) rfl rfl ?_
  refine a_st (σ' := ⟨[(0, (eSu8 a0))], []⟩) (by kernel_rfl) ?_
  unfold laws_FnPolys_c
  refine sr (vp (.bool false) rfl (nx ⟨[(0, (eSu8 a0))], []⟩ (by kernel_rfl) (a_seq (sr (vp (eSu8 a0) rfl ?_)))))
  obtain ⟨r1, hr2, h⟩ := bind_some h
  refine a_call (args := [(eSu8 a0)]) (u := []) (r := (.bool r1)) rfl rfl (laws_big_ok a0 r1 hr2) rfl (nx ⟨[(0, (eSu8 a0)), (58, (.bool r1))], []⟩ (by kernel_rfl) ?_)
  cases hb3 : r1
  · have h := ite_f hb3 h
    refine a_cond_f rfl (a_skip (a_next (σ' := ⟨[(0, (eSu8 a0))], []⟩) (by kernel_rfl) (sr (vp (eSu8 a0) rfl ?_))))
    obtain ⟨r4, hr5, h⟩ := bind_some h
    refine a_call (args := [(eSu8 a0)]) (u := []) (r := (.tuple [(i6 r4.1), (eA64u8 r4.2.1), (eA64u8 r4.2.2)])) rfl rfl (spec_DrawMultiplyPolys_ok a0 r4 hr5) rfl (vp (.tuple [(i6 r4.1), (eA64u8 r4.2.1), (eA64u8 r4.2.2)]) rfl (vb (i6 r4.1) rfl rfl (vb (eA64u8 r4.2.1) rfl rfl (vb (eA64u8 r4.2.2) rfl rfl (vo 1400 (eA64u8 ((vrep 64 (0 : Int)))) rfl rfl (vo 1500 (eA64u8 ((vrep 64 (0 : Int)))) rfl rfl (vp (i6 r4.1) rfl (vs (eA64u8 r4.2.1) rfl rfl (fun _ => rfl) rfl rfl rfl rfl rfl rfl (vs (eA64u8 r4.2.2) rfl rfl (fun _ => rfl) rfl rfl rfl rfl rfl rfl ?_)))))))))
    refine nx ⟨[(0, (eSu8 a0)), (3, (i6 r4.1)), (4, (ow 4)), (5, (ow 5))], [(4, (bk (eA64u8 r4.2.1))), (5, (bk (eA64u8 r4.2.2)))]⟩ (by kernel_rfl) (sr (vp (i6 r4.1) rfl (vl (eA64u8 r4.2.1) rfl rfl rfl rfl rfl rfl (vl (eA64u8 r4.2.2) rfl rfl rfl rfl rfl rfl ?_))))
    obtain ⟨r10, hr11, h⟩ := bind_some h
    refine a_call (args := [(i6 r4.1), (eA64u8 r4.2.1), (eA64u8 r4.2.2)]) (u := []) (r := (.tuple [(eA64u8 r10.1), (i6 r10.2)])) rfl rfl (impl_MultiplyPolys_ok r4.1 r4.2.1 r4.2.2 r10 hr11) rfl (vp (.tuple [(eA64u8 r10.1), (i6 r10.2)]) rfl (vb (eA64u8 r10.1) rfl rfl (vb (i6 r10.2) rfl rfl (vo 1600 (eA64u8 ((vrep 64 (0 : Int)))) rfl rfl (vs (eA64u8 r10.1) rfl rfl (fun _ => rfl) rfl rfl rfl rfl rfl rfl (vp (i6 r10.2) rfl (nx ⟨[(0, (eSu8 a0)), (3, (i6 r4.1)), (4, (ow 4)), (5, (ow 5)), (6, (ow 6)), (7, (i6 r10.2))], [(4, (bk (eA64u8 r4.2.1))), (5, (bk (eA64u8 r4.2.2))), (6, (bk (eA64u8 r10.1)))]⟩ (by kernel_rfl) (sr (vp (i6 r4.1) rfl ?_)))))))))
    refine vl (eA64u8 r4.2.1) rfl rfl rfl rfl rfl rfl (vl (eA64u8 r4.2.2) rfl rfl rfl rfl rfl rfl ?_)
    obtain ⟨r15, hr16, h⟩ := bind_some h
    refine a_call (args := [(i6 r4.1), (eA64u8 r4.2.1), (eA64u8 r4.2.2)]) (u := []) (r := (.tuple [(eA64u8 r15.1), (i6 r15.2)])) rfl rfl (spec_MultiplyPolys_ok r4.1 r4.2.1 r4.2.2 r15 hr16) rfl (vp (.tuple [(eA64u8 r15.1), (i6 r15.2)]) rfl (vb (eA64u8 r15.1) rfl rfl (vb (i6 r15.2) rfl rfl (vo 1800 (eA64u8 ((vrep 64 (0 : Int)))) rfl rfl (vs (eA64u8 r15.1) rfl rfl (fun _ => rfl) rfl rfl rfl rfl rfl rfl (vp (i6 r15.2) rfl (nx ⟨[(0, (eSu8 a0)), (3, (i6 r4.1)), (4, (ow 4)), (5, (ow 5)), (6, (ow 6)), (7, (i6 r10.2)), (8, (ow 8)), (9, (i6 r15.2))], [(4, (bk (eA64u8 r4.2.1))), (5, (bk (eA64u8 r4.2.2))), (6, (bk (eA64u8 r10.1))), (8, (bk (eA64u8 r15.1)))]⟩ (by kernel_rfl) (a_seq ?_))))))))
    obtain ⟨y39, hy40, hk41⟩ := bind_some h
    clear h
    refine a_join (emb := fun (s : Bool) => ⟨[(0, (eSu8 a0)), (3, (i6 r4.1)), (4, (ow 4)), (5, (ow 5)), (6, (ow 6)), (7, (i6 r10.2)), (95, (.bool s))], [(4, (bk (eA64u8 r4.2.1))), (5, (bk (eA64u8 r4.2.2))), (6, (bk (eA64u8 r10.1)))]⟩) (pre := fun s => s = y39) ?_ ?_
    · rintro x38 rfl
      have h := hk41
      refine a_st (σ' := ⟨[(0, (eSu8 a0)), (3, (i6 r4.1)), (4, (ow 4)), (5, (ow 5)), (6, (ow 6)), (7, (i6 r10.2)), (95, (.bool x38))], [(4, (bk (eA64u8 r4.2.1))), (5, (bk (eA64u8 r4.2.2))), (6, (bk (eA64u8 r10.1)))]⟩) (by kernel_rfl) ?_
      cases hb62 : x38
      · have h := ite_f hb62 h
        refine a_cond_f rfl (a_skip (a_next (σ' := ⟨[(0, (eSu8 a0)), (3, (i6 r4.1)), (4, (ow 4)), (5, (ow 5)), (6, (ow 6)), (7, (i6 r10.2))], [(4, (bk (eA64u8 r4.2.1))), (5, (bk (eA64u8 r4.2.2))), (6, (bk (eA64u8 r10.1)))]⟩) (by kernel_rfl) ?_))
        obtain ⟨y118, hy119, hk120⟩ := bind_some h
        clear h
        refine a_join (emb := fun (s : Unit) => ⟨[(0, (eSu8 a0))], []⟩) (pre := fun s => (.inl s) = y118) ?_ ?_
        · rintro _ rfl
          have h := hk120
          refine a_st (σ' := ⟨[(0, (eSu8 a0))], []⟩) (by kernel_rfl) (sr (vp (eSu8 a0) rfl ?_))
          obtain ⟨r176, hr177, h⟩ := bind_some h
          refine a_call (args := [(eSu8 a0)]) (u := []) (r := (.tuple [(i6 r176.1), (eA64u8 r176.2.1), (eA64u8 r176.2.2)])) rfl rfl (spec_DrawDividePolys_ok a0 r176 hr177) rfl (vp (.tuple [(i6 r176.1), (eA64u8 r176.2.1), (eA64u8 r176.2.2)]) rfl (vb (i6 r176.1) rfl rfl (vb (eA64u8 r176.2.1) rfl rfl (vb (eA64u8 r176.2.2) rfl rfl (vo 3200 (eA64u8 ((vrep 64 (0 : Int)))) rfl rfl (vo 3300 (eA64u8 ((vrep 64 (0 : Int)))) rfl rfl (vp (i6 r176.1) rfl (vs (eA64u8 r176.2.1) rfl rfl (fun _ => rfl) rfl rfl rfl rfl rfl rfl (vs (eA64u8 r176.2.2) rfl rfl (fun _ => rfl) rfl rfl rfl rfl rfl rfl ?_)))))))))
          refine nx ⟨[(0, (eSu8 a0)), (21, (i6 r176.1)), (22, (ow 22)), (23, (ow 23))], [(22, (bk (eA64u8 r176.2.1))), (23, (bk (eA64u8 r176.2.2)))]⟩ (by kernel_rfl) (sr (vp (i6 r176.1) rfl (vl (eA64u8 r176.2.1) rfl rfl rfl rfl rfl rfl (vl (eA64u8 r176.2.2) rfl rfl rfl rfl rfl rfl ?_))))
          obtain ⟨r182, hr183, h⟩ := bind_some h
          refine a_call (args := [(i6 r176.1), (eA64u8 r176.2.1), (eA64u8 r176.2.2)]) (u := []) (r := (.tuple [(eA64u8 r182.1), (eA64u8 r182.2.1), (i6 r182.2.2)])) rfl rfl (impl_DividePolys_ok r176.1 r176.2.1 r176.2.2 r182 hr183) rfl (vp (.tuple [(eA64u8 r182.1), (eA64u8 r182.2.1), (i6 r182.2.2)]) rfl (vb (eA64u8 r182.1) rfl rfl (vb (eA64u8 r182.2.1) rfl rfl (vb (i6 r182.2.2) rfl rfl (vo 3400 (eA64u8 ((vrep 64 (0 : Int)))) rfl rfl (vo 3500 (eA64u8 ((vrep 64 (0 : Int)))) rfl rfl (vs (eA64u8 r182.1) rfl rfl (fun _ => rfl) rfl rfl rfl rfl rfl rfl (vs (eA64u8 r182.2.1) rfl rfl (fun _ => rfl) rfl rfl rfl rfl rfl rfl (vp (i6 r182.2.2) rfl ?_)))))))))
          refine nx ⟨[(0, (eSu8 a0)), (21, (i6 r176.1)), (22, (ow 22)), (23, (ow 23)), (24, (ow 24)), (25, (ow 25)), (26, (i6 r182.2.2))], [(22, (bk (eA64u8 r176.2.1))), (23, (bk (eA64u8 r176.2.2))), (24, (bk (eA64u8 r182.1))), (25, (bk (eA64u8 r182.2.1)))]⟩ (by kernel_rfl) (sr (vp (i6 r176.1) rfl (vl (eA64u8 r176.2.1) rfl rfl rfl rfl rfl rfl (vl (eA64u8 r176.2.2) rfl rfl rfl rfl rfl rfl ?_))))
          obtain ⟨r188, hr189, h⟩ := bind_some h
          refine a_call (args := [(i6 r176.1), (eA64u8 r176.2.1), (eA64u8 r176.2.2)]) (u := []) (r := (.tuple [(eA64u8 r188.1), (eA64u8 r188.2.1), (i6 r188.2.2)])) rfl rfl (spec_DividePolys_ok r176.1 r176.2.1 r176.2.2 r188 hr189) rfl (vp (.tuple [(eA64u8 r188.1), (eA64u8 r188.2.1), (i6 r188.2.2)]) rfl (vb (eA64u8 r188.1) rfl rfl (vb (eA64u8 r188.2.1) rfl rfl (vb (i6 r188.2.2) rfl rfl (vo 3700 (eA64u8 ((vrep 64 (0 : Int)))) rfl rfl (vo 3800 (eA64u8 ((vrep 64 (0 : Int)))) rfl rfl (vs (eA64u8 r188.1) rfl rfl (fun _ => rfl) rfl rfl rfl rfl rfl rfl (vs (eA64u8 r188.2.1) rfl rfl (fun _ => rfl) rfl rfl rfl rfl rfl rfl (vp (i6 r188.2.2) rfl ?_)))))))))
          refine nx ⟨[(0, (eSu8 a0)), (21, (i6 r176.1)), (22, (ow 22)), (23, (ow 23)), (24, (ow 24)), (25, (ow 25)), (26, (i6 r182.2.2)), (27, (ow 27)), (28, (ow 28)), (29, (i6 r188.2.2))], [(22, (bk (eA64u8 r176.2.1))), (23, (bk (eA64u8 r176.2.2))), (24, (bk (eA64u8 r182.1))), (25, (bk (eA64u8 r182.2.1))), (27, (bk (eA64u8 r188.1))), (28, (bk (eA64u8 r188.2.1)))]⟩ (by kernel_rfl) (a_seq ?_)
          obtain ⟨y199, hy200, hk201⟩ := bind_some h
          clear h
          refine a_join (emb := fun (s : Bool) => ⟨[(0, (eSu8 a0)), (21, (i6 r176.1)), (22, (ow 22)), (23, (ow 23)), (24, (ow 24)), (25, (ow 25)), (26, (i6 r182.2.2)), (197, (.bool s))], [(22, (bk (eA64u8 r176.2.1))), (23, (bk (eA64u8 r176.2.2))), (24, (bk (eA64u8 r182.1))), (25, (bk (eA64u8 r182.2.1)))]⟩) (pre := fun s => s = y199) ?_ ?_
          · rintro x198 rfl
            have h := hk201
            refine a_st (σ' := ⟨[(0, (eSu8 a0)), (21, (i6 r176.1)), (22, (ow 22)), (23, (ow 23)), (24, (ow 24)), (25, (ow 25)), (26, (i6 r182.2.2)), (197, (.bool x198))], [(22, (bk (eA64u8 r176.2.1))), (23, (bk (eA64u8 r176.2.2))), (24, (bk (eA64u8 r182.1))), (25, (bk (eA64u8 r182.2.1)))]⟩) (by kernel_rfl) ?_
            cases hb208 : x198
            · have h := ite_f hb208 h
              refine a_cond_f rfl (a_skip (a_next (σ' := ⟨[(0, (eSu8 a0)), (21, (i6 r176.1)), (22, (ow 22)), (23, (ow 23)), (24, (ow 24)), (25, (ow 25)), (26, (i6 r182.2.2))], [(22, (bk (eA64u8 r176.2.1))), (23, (bk (eA64u8 r176.2.2))), (24, (bk (eA64u8 r182.1))), (25, (bk (eA64u8 r182.2.1)))]⟩) (by kernel_rfl) ?_))
              obtain ⟨y245, hy246, hk247⟩ := bind_some h
              clear h
              refine a_join (emb := fun (s : Unit) => ⟨[(0, (eSu8 a0))], []⟩) (pre := fun s => (.inl s) = y245) ?_ ?_
              · rintro _ rfl
                have h := hk247
                refine a_st (σ' := ⟨[(0, (eSu8 a0))], []⟩) (by kernel_rfl) (sr (vp (eSu8 a0) rfl ?_))
                obtain ⟨r284, hr285, h⟩ := bind_some h
                refine a_call (args := [(eSu8 a0)]) (u := []) (r := (.tuple [(i6 r284.1), (eA64u8 r284.2)])) rfl rfl (spec_DrawNumberOfPoly_ok a0 r284 hr285) rfl (vp (.tuple [(i6 r284.1), (eA64u8 r284.2)]) rfl (vb (i6 r284.1) rfl rfl (vb (eA64u8 r284.2) rfl rfl (vo 4900 (eA64u8 ((vrep 64 (0 : Int)))) rfl rfl (vp (i6 r284.1) rfl (vs (eA64u8 r284.2) rfl rfl (fun _ => rfl) rfl rfl rfl rfl rfl rfl (nx ⟨[(0, (eSu8 a0)), (38, (i6 r284.1)), (39, (ow 39))], [(39, (bk (eA64u8 r284.2)))]⟩ (by kernel_rfl) (sr (vp (i6 r284.1) rfl ?_)))))))))
                refine vl (eA64u8 r284.2) rfl rfl rfl rfl rfl rfl ?_
                obtain ⟨r288, hr289, h⟩ := bind_some h
                refine a_call (args := [(i6 r284.1), (eA64u8 r284.2)]) (u := []) (r := (.tuple [(i6 r288.1), (i6 r288.2)])) rfl rfl (impl_NumberOfPoly_ok r284.1 r284.2 r288 hr289) rfl (vp (.tuple [(i6 r288.1), (i6 r288.2)]) rfl (vb (i6 r288.1) rfl rfl (vb (i6 r288.2) rfl rfl (vp (i6 r288.1) rfl (vp (i6 r288.2) rfl (nx ⟨[(0, (eSu8 a0)), (38, (i6 r284.1)), (39, (ow 39)), (40, (i6 r288.1)), (41, (i6 r288.2))], [(39, (bk (eA64u8 r284.2)))]⟩ (by kernel_rfl) (sr (vp (i6 r284.1) rfl (vl (eA64u8 r284.2) rfl rfl rfl rfl rfl rfl ?_)))))))))
                obtain ⟨r291, hr292, h⟩ := bind_some h
                refine a_call (args := [(i6 r284.1), (eA64u8 r284.2)]) (u := []) (r := (.tuple [(i6 r291.1), (i6 r291.2)])) rfl rfl (spec_NumberOfPoly_ok r284.1 r284.2 r291 hr292) rfl (vp (.tuple [(i6 r291.1), (i6 r291.2)]) rfl (vb (i6 r291.1) rfl rfl (vb (i6 r291.2) rfl rfl (vp (i6 r291.1) rfl (vp (i6 r291.2) rfl (nx ⟨[(0, (eSu8 a0)), (38, (i6 r284.1)), (39, (ow 39)), (40, (i6 r288.1)), (41, (i6 r288.2)), (42, (i6 r291.1)), (43, (i6 r291.2))], [(39, (bk (eA64u8 r284.2)))]⟩ (by kernel_rfl) (a_seq ?_)))))))
                obtain ⟨y295, hy296, hk297⟩ := bind_some h
                clear h
                refine a_join (emb := fun (s : Bool) => ⟨[(0, (eSu8 a0)), (38, (i6 r284.1)), (39, (ow 39)), (40, (i6 r288.1)), (41, (i6 r288.2)), (274, (.bool s))], [(39, (bk (eA64u8 r284.2)))]⟩) (pre := fun s => s = y295) ?_ ?_
                · rintro x294 rfl
                  have h := hk297
                  refine a_st (σ' := ⟨[(0, (eSu8 a0)), (38, (i6 r284.1)), (39, (ow 39)), (40, (i6 r288.1)), (41, (i6 r288.2)), (274, (.bool x294))], [(39, (bk (eA64u8 r284.2)))]⟩) (by kernel_rfl) ?_
                  cases hb299 : x294
                  · have h := ite_f hb299 h
                    refine a_cond_f rfl (a_skip (a_next (σ' := ⟨[(0, (eSu8 a0)), (38, (i6 r284.1)), (39, (ow 39)), (40, (i6 r288.1)), (41, (i6 r288.2))], [(39, (bk (eA64u8 r284.2)))]⟩) (by kernel_rfl) ?_))
                    obtain ⟨y331, hy332, hk333⟩ := bind_some h
                    clear h
                    refine a_join (emb := fun (s : Unit) => ⟨[(0, (eSu8 a0))], []⟩) (pre := fun s => (.inl s) = y331) ?_ ?_
                    · rintro _ rfl
                      have h := hk333
                      refine a_st (σ' := ⟨[(0, (eSu8 a0))], []⟩) (by kernel_rfl) (sr (vp (eSu8 a0) rfl ?_))
                      obtain ⟨r365, hr366, h⟩ := bind_some h
                      refine a_call (args := [(eSu8 a0)]) (u := []) (r := (.tuple [(i6 r365.1), (eA64u8 r365.2.1), (eA64u8 r365.2.2)])) rfl rfl (spec_DrawAddPolys_ok a0 r365 hr366) rfl (vp (.tuple [(i6 r365.1), (eA64u8 r365.2.1), (eA64u8 r365.2.2)]) rfl (vb (i6 r365.1) rfl rfl (vb (eA64u8 r365.2.1) rfl rfl (vb (eA64u8 r365.2.2) rfl rfl (vo 6100 (eA64u8 ((vrep 64 (0 : Int)))) rfl rfl (vo 6200 (eA64u8 ((vrep 64 (0 : Int)))) rfl rfl (vp (i6 r365.1) rfl (vs (eA64u8 r365.2.1) rfl rfl (fun _ => rfl) rfl rfl rfl rfl rfl rfl (vs (eA64u8 r365.2.2) rfl rfl (fun _ => rfl) rfl rfl rfl rfl rfl rfl ?_)))))))))
                      refine nx ⟨[(50, (i6 r365.1)), (51, (ow 51)), (52, (ow 52))], [(51, (bk (eA64u8 r365.2.1))), (52, (bk (eA64u8 r365.2.2)))]⟩ (by kernel_rfl) (sr (vp (i6 r365.1) rfl (vl (eA64u8 r365.2.1) rfl rfl rfl rfl rfl rfl (vl (eA64u8 r365.2.2) rfl rfl rfl rfl rfl rfl ?_))))
                      obtain ⟨r371, hr372, h⟩ := bind_some h
                      refine a_call (args := [(i6 r365.1), (eA64u8 r365.2.1), (eA64u8 r365.2.2)]) (u := []) (r := (.tuple [(eA64u8 r371.1), (i6 r371.2)])) rfl rfl (impl_AddPolys_ok r365.1 r365.2.1 r365.2.2 r371 hr372) rfl (vp (.tuple [(eA64u8 r371.1), (i6 r371.2)]) rfl (vb (eA64u8 r371.1) rfl rfl (vb (i6 r371.2) rfl rfl (vo 6300 (eA64u8 ((vrep 64 (0 : Int)))) rfl rfl (vs (eA64u8 r371.1) rfl rfl (fun _ => rfl) rfl rfl rfl rfl rfl rfl (vp (i6 r371.2) rfl (nx ⟨[(50, (i6 r365.1)), (51, (ow 51)), (52, (ow 52)), (53, (ow 53)), (54, (i6 r371.2))], [(51, (bk (eA64u8 r365.2.1))), (52, (bk (eA64u8 r365.2.2))), (53, (bk (eA64u8 r371.1)))]⟩ (by kernel_rfl) (sr (vp (i6 r365.1) rfl ?_)))))))))
                      refine vl (eA64u8 r365.2.1) rfl rfl rfl rfl rfl rfl (vl (eA64u8 r365.2.2) rfl rfl rfl rfl rfl rfl ?_)
                      obtain ⟨r376, hr377, h⟩ := bind_some h
                      refine a_call (args := [(i6 r365.1), (eA64u8 r365.2.1), (eA64u8 r365.2.2)]) (u := []) (r := (.tuple [(eA64u8 r376.1), (i6 r376.2)])) rfl rfl (spec_AddPolys_ok r365.1 r365.2.1 r365.2.2 r376 hr377) rfl (vp (.tuple [(eA64u8 r376.1), (i6 r376.2)]) rfl (vb (eA64u8 r376.1) rfl rfl (vb (i6 r376.2) rfl rfl (vo 6500 (eA64u8 ((vrep 64 (0 : Int)))) rfl rfl (vs (eA64u8 r376.1) rfl rfl (fun _ => rfl) rfl rfl rfl rfl rfl rfl (vp (i6 r376.2) rfl (nx ⟨[(53, (ow 53)), (54, (i6 r371.2)), (55, (ow 55)), (56, (i6 r376.2))], [(53, (bk (eA64u8 r371.1))), (55, (bk (eA64u8 r376.1)))]⟩ (by kernel_rfl) (sr (vp (i6 r371.2) rfl ?_)))))))))
                      refine vp (i6 r376.2) rfl (vp (.bool (r371.2 == r376.2)) rfl (vp (.bool (r371.2 == r376.2)) rfl ?_))
                      cases hb379 : (r371.2 == r376.2)
                      · have h := ite_f hb379 h
                        refine a_gskip rfl (a_gskip rfl (a_gskip rfl (vp (.bool false) rfl (vp (.bool false) rfl (nx _ rfl (a_ret ?_))))))
                        refine ⟨.inr rfl, ?_⟩
                        rw [Try.results3]
                        cases h
                        exact ⟨_, _, _, _, _, rfl, trivial, .inl ⟨rfl, .inl rfl⟩, rfl, rfl⟩
                      · have h := ite_t hb379 h
                        have hl380 : LdOk [] (eA64u8 r371.1) [] 64 true (eA64u8 r371.1) := (.nil rfl rfl rfl)
                        refine gq (eA64u8 r371.1) rfl (ld_own (i := ⟨.arr 64 5, 64, 64, (eA64u8 (vrep 64 (0 : Int)))⟩) rfl rfl rfl hl380) hl380.c ?_
                        have hl381 : LdOk [] (eA64u8 r376.1) [] 64 true (eA64u8 r376.1) := (.nil rfl rfl rfl)
                        refine gq (eA64u8 r376.1) rfl (ld_own (i := ⟨.arr 64 5, 64, 64, (eA64u8 (vrep 64 (0 : Int)))⟩) rfl rfl rfl hl381) hl381.c (gq (.bool ((decide (r371.1 = r376.1)))) rfl (eqa_run (f := (AV.int .u8)) (a := r371.1.1) (b := r376.1.1) rfl rfl (eqb_vec (fun _ _ => eqb_int _ _) r371.1 r376.1)) (cmp_arr (g := 8) (f := (AV.int .u8)) (x := r371.1) (y := r376.1) rfl rfl rfl (fun _ _ => rfl) (fun _ _ => cmp_int rfl)) (vp (.bool ((decide (r371.1 = r376.1)))) rfl (vp (.bool ((decide (r371.1 = r376.1)))) rfl (nx _ rfl (a_ret ?_)))))
                        refine ⟨.inr rfl, ?_⟩
                        rw [Try.results3]
                        cases h
                        exact ⟨_, _, _, _, _, rfl, trivial, .inl ⟨rfl, .inl rfl⟩, rfl, rfl⟩
                    · have h := hy332
                      refine sr (vp (i6 r288.2) rfl (vp (.bool (r288.2 == 0)) rfl (nx ⟨[(0, (eSu8 a0)), (38, (i6 r284.1)), (39, (ow 39)), (40, (i6 r288.1)), (276, (.bool (r288.2 == 0)))], [(39, (bk (eA64u8 r284.2)))]⟩ (by kernel_rfl) ?_)))
                      cases hb334 : (r288.2 == 0)
                      · have h := ite_f hb334 h
                        refine a_cond_f rfl (a_skip ?_)
                        exact j_leaf () (Option.some.inj h) (by kernel_rfl)
                      · have h := ite_t hb334 h
                        refine a_cond_t rfl (sr (vp (i6 r284.1) rfl (vp (i6 r288.1) rfl ?_)))
                        obtain ⟨r335, hr336, h⟩ := bind_some h
                        refine a_call (args := [(i6 r284.1), (i6 r288.1)]) (u := []) (r := (.tuple [(eA64u8 r335.1), (i6 r335.2)])) rfl rfl (impl_PolyOfNumber_ok r284.1 r288.1 r335 hr336) rfl (vp (.tuple [(eA64u8 r335.1), (i6 r335.2)]) rfl (vb (eA64u8 r335.1) rfl rfl (vb (i6 r335.2) rfl rfl (vo 5400 (eA64u8 ((vrep 64 (0 : Int)))) rfl rfl (vs (eA64u8 r335.1) rfl rfl (fun _ => rfl) rfl rfl rfl rfl rfl rfl (vp (i6 r335.2) rfl (nx ⟨[(0, (eSu8 a0)), (38, (i6 r284.1)), (39, (ow 39)), (44, (ow 44)), (45, (i6 r335.2))], [(39, (bk (eA64u8 r284.2))), (44, (bk (eA64u8 r335.1)))]⟩ (by kernel_rfl) (sr (vp (i6 r284.1) rfl ?_)))))))))
                        refine vl (eA64u8 r284.2) rfl rfl rfl rfl rfl rfl ?_
                        obtain ⟨r339, hr340, h⟩ := bind_some h
                        refine a_call (args := [(i6 r284.1), (eA64u8 r284.2)]) (u := []) (r := (.tuple [(.str r339.1), (i6 r339.2)])) rfl rfl (impl_PolyText_ok r284.1 r284.2 r339 hr340) rfl (vp (.tuple [(.str r339.1), (i6 r339.2)]) rfl (vb (.str r339.1) rfl rfl (vb (i6 r339.2) rfl rfl (vp (.str r339.1) rfl (vp (i6 r339.2) rfl (nx ⟨[(0, (eSu8 a0)), (38, (i6 r284.1)), (39, (ow 39)), (44, (ow 44)), (45, (i6 r335.2)), (46, (.str r339.1)), (47, (i6 r339.2))], [(39, (bk (eA64u8 r284.2))), (44, (bk (eA64u8 r335.1)))]⟩ (by kernel_rfl) (sr (vp (i6 r284.1) rfl (vp (.str r339.1) rfl ?_)))))))))
                        obtain ⟨r341, hr342, h⟩ := bind_some h
                        refine a_call (args := [(i6 r284.1), (.str r339.1)]) (u := []) (r := (.tuple [(eA64u8 r341.1), (i6 r341.2)])) rfl rfl (impl_ParsePoly_ok r284.1 r339.1 r341 hr342) rfl (vp (.tuple [(eA64u8 r341.1), (i6 r341.2)]) rfl (vb (eA64u8 r341.1) rfl rfl (vb (i6 r341.2) rfl rfl (vo 5800 (eA64u8 ((vrep 64 (0 : Int)))) rfl rfl (vs (eA64u8 r341.1) rfl rfl (fun _ => rfl) rfl rfl rfl rfl rfl rfl (vp (i6 r341.2) rfl (nx ⟨[(0, (eSu8 a0)), (39, (ow 39)), (44, (ow 44)), (45, (i6 r335.2)), (47, (i6 r339.2)), (48, (ow 48)), (49, (i6 r341.2))], [(39, (bk (eA64u8 r284.2))), (44, (bk (eA64u8 r335.1))), (48, (bk (eA64u8 r341.1)))]⟩ (by kernel_rfl) ?_)))))))
                        obtain ⟨y353, hy354, hk355⟩ := bind_some h
                        clear h
                        refine a_join (emb := fun (s : Bool) => ⟨[(0, (eSu8 a0)), (314, (.bool s))], []⟩) (pre := fun s => s = y353) ?_ ?_
                        · rintro x352 rfl
                          have h := hk355
                          refine a_st (σ' := ⟨[(0, (eSu8 a0)), (314, (.bool x352))], []⟩) (by kernel_rfl) ?_
                          cases hb364 : x352
                          · have h := ite_f hb364 h
                            refine a_cond_f rfl (a_skip ?_)
                            exact j_leaf () (Option.some.inj h) (by kernel_rfl)
                          · have h := ite_t hb364 h
                            refine a_cond_t rfl (sr (vp (.bool false) rfl (nx _ rfl (a_ret (t_ret ?_)))))
                            cases h
                            have h := hk333
                            refine ⟨.inr rfl, ?_⟩
                            rw [Try.results3]
                            cases h
                            exact ⟨_, _, _, _, _, rfl, trivial, .inl ⟨rfl, .inl rfl⟩, rfl, rfl⟩
                        · have h := hy354
                          refine a_region (vp (i6 r335.2) rfl (vp (.bool (r335.2 != 0)) rfl (vp (.bool (r335.2 != 0)) rfl ?_)))
                          cases hb356 : (r335.2 != 0)
                          · have h := ite_f hb356 h
                            refine gp (i6 r339.2) rfl rfl (gp (.bool (r339.2 != 0)) rfl rfl (vp (.bool (r339.2 != 0)) rfl (vp (.bool (r339.2 != 0)) rfl ?_)))
                            cases hb357 : (r339.2 != 0)
                            · have h := ite_f hb357 h
                              refine gp (i6 r341.2) rfl rfl (gp (.bool (r341.2 != 0)) rfl rfl (vp (.bool (r341.2 != 0)) rfl (vp (.bool (r341.2 != 0)) rfl ?_)))
                              cases hb358 : (r341.2 != 0)
                              · have h := ite_f hb358 h
                                have hl359 : LdOk [] (eA64u8 r335.1) [] 64 true (eA64u8 r335.1) := (.nil rfl rfl rfl)
                                refine gq (eA64u8 r335.1) rfl (ld_own (i := ⟨.arr 64 5, 64, 64, (eA64u8 (vrep 64 (0 : Int)))⟩) rfl rfl rfl hl359) hl359.c ?_
                                have hl360 : LdOk [] (eA64u8 r284.2) [] 64 true (eA64u8 r284.2) := (.nil rfl rfl rfl)
                                refine gq (eA64u8 r284.2) rfl (ld_own (i := ⟨.arr 64 5, 64, 64, (eA64u8 (vrep 64 (0 : Int)))⟩) rfl rfl rfl hl360) hl360.c (gq (.bool ((!decide (r335.1 = r284.2)))) rfl (nea_run (f := (AV.int .u8)) (a := r335.1.1) (b := r284.2.1) rfl rfl (eqb_vec (fun _ _ => eqb_int _ _) r335.1 r284.2)) (cmp_arr (g := 8) (f := (AV.int .u8)) (x := r335.1) (y := r284.2) rfl rfl rfl (fun _ _ => rfl) (fun _ _ => cmp_int rfl)) (vp (.bool ((!decide (r335.1 = r284.2)))) rfl (vp (.bool ((!decide (r335.1 = r284.2)))) rfl ?_)))
                                cases hb361 : (!decide (r335.1 = r284.2))
                                · have h := ite_f hb361 h
                                  have hl362 : LdOk [] (eA64u8 r341.1) [] 64 true (eA64u8 r341.1) := (.nil rfl rfl rfl)
                                  refine gq (eA64u8 r341.1) rfl (ld_own (i := ⟨.arr 64 5, 64, 64, (eA64u8 (vrep 64 (0 : Int)))⟩) rfl rfl rfl hl362) hl362.c ?_
                                  have hl363 : LdOk [] (eA64u8 r284.2) [] 64 true (eA64u8 r284.2) := (.nil rfl rfl rfl)
                                  refine gq (eA64u8 r284.2) rfl (ld_own (i := ⟨.arr 64 5, 64, 64, (eA64u8 (vrep 64 (0 : Int)))⟩) rfl rfl rfl hl363) hl363.c (gq (.bool ((!decide (r341.1 = r284.2)))) rfl (nea_run (f := (AV.int .u8)) (a := r341.1.1) (b := r284.2.1) rfl rfl (eqb_vec (fun _ _ => eqb_int _ _) r341.1 r284.2)) (cmp_arr (g := 8) (f := (AV.int .u8)) (x := r341.1) (y := r284.2) rfl rfl rfl (fun _ _ => rfl) (fun _ _ => cmp_int rfl)) (vp (.bool ((!decide (r341.1 = r284.2)))) rfl (a_nil ?_)))
                                  exact j_leaf ((!decide (r341.1 = r284.2))) (Option.some.inj h) (by kernel_rfl)
                                · have h := ite_t hb361 h
                                  refine a_gskip rfl (a_gskip rfl (a_gskip rfl (vp (.bool true) rfl (a_nil ?_))))
                                  exact j_leaf true (Option.some.inj h) (by kernel_rfl)
                              · have h := ite_t hb358 h
                                refine a_gskip rfl (a_gskip rfl (a_gskip rfl (vp (.bool true) rfl (vp (.bool true) rfl (a_gskip rfl (a_gskip rfl (a_gskip rfl (vp (.bool true) rfl (a_nil ?_)))))))))
                                exact j_leaf true (Option.some.inj h) (by kernel_rfl)
                            · have h := ite_t hb357 h
                              refine a_gskip rfl (a_gskip rfl (vp (.bool true) rfl (vp (.bool true) rfl (a_gskip rfl (a_gskip rfl (a_gskip rfl (vp (.bool true) rfl (vp (.bool true) rfl (a_gskip rfl ?_)))))))))
                              refine a_gskip rfl (a_gskip rfl (vp (.bool true) rfl (a_nil ?_)))
                              exact j_leaf true (Option.some.inj h) (by kernel_rfl)
                          · have h := ite_t hb356 h
                            refine a_gskip rfl (a_gskip rfl (vp (.bool true) rfl (vp (.bool true) rfl (a_gskip rfl (a_gskip rfl (vp (.bool true) rfl (vp (.bool true) rfl (a_gskip rfl (a_gskip rfl ?_)))))))))
                            refine a_gskip rfl (vp (.bool true) rfl (vp (.bool true) rfl (a_gskip rfl (a_gskip rfl (a_gskip rfl (vp (.bool true) rfl (a_nil ?_)))))))
                            exact j_leaf true (Option.some.inj h) (by kernel_rfl)
                  · have h := ite_t hb299 h
                    refine a_cond_t rfl (sr (vp (.bool false) rfl (nx _ rfl (a_ret (t_ret ?_)))))
                    refine ⟨.inr rfl, ?_⟩
                    rw [Try.results3]
                    cases h
                    exact ⟨_, _, _, _, _, rfl, trivial, .inl ⟨rfl, .inl rfl⟩, rfl, rfl⟩
                · have h := hy296
                  refine a_region (vp (i6 r288.2) rfl (vp (i6 r291.2) rfl (vp (.bool (r288.2 != r291.2)) rfl (vp (.bool (r288.2 != r291.2)) rfl ?_))))
                  cases hb298 : (r288.2 != r291.2)
                  · have h := ite_f hb298 h
                    refine gp (i6 r288.1) rfl rfl (gp (i6 r291.1) rfl rfl (gp (.bool (r288.1 != r291.1)) rfl rfl (vp (.bool (r288.1 != r291.1)) rfl (a_nil ?_))))
                    exact j_leaf (r288.1 != r291.1) (Option.some.inj h) (by kernel_rfl)
                  · have h := ite_t hb298 h
                    refine a_gskip rfl (a_gskip rfl (a_gskip rfl (vp (.bool true) rfl (a_nil ?_))))
                    exact j_leaf true (Option.some.inj h) (by kernel_rfl)
              · have h := hy246
                refine sr (vp (i6 r182.2.2) rfl (vp (.bool (r182.2.2 == 0)) rfl (nx ⟨[(0, (eSu8 a0)), (21, (i6 r176.1)), (22, (ow 22)), (23, (ow 23)), (24, (ow 24)), (25, (ow 25)), (199, (.bool (r182.2.2 == 0)))], [(22, (bk (eA64u8 r176.2.1))), (23, (bk (eA64u8 r176.2.2))), (24, (bk (eA64u8 r182.1))), (25, (bk (eA64u8 r182.2.1)))]⟩ (by kernel_rfl) ?_)))
                cases hb248 : (r182.2.2 == 0)
                · have h := ite_f hb248 h
                  refine a_cond_f rfl (a_skip ?_)
                  exact j_leaf () (Option.some.inj h) (by kernel_rfl)
                · have h := ite_t hb248 h
                  refine a_cond_t rfl (sr (vp (i6 r176.1) rfl (vl (eA64u8 r182.1) rfl rfl rfl rfl rfl rfl (vl (eA64u8 r176.2.2) rfl rfl rfl rfl rfl rfl ?_))))
                  obtain ⟨r251, hr252, h⟩ := bind_some h
                  refine a_call (args := [(i6 r176.1), (eA64u8 r182.1), (eA64u8 r176.2.2)]) (u := []) (r := (.tuple [(eA64u8 r251.1), (i6 r251.2)])) rfl rfl (impl_MultiplyPolys_ok r176.1 r182.1 r176.2.2 r251 hr252) rfl (vp (.tuple [(eA64u8 r251.1), (i6 r251.2)]) rfl (vb (eA64u8 r251.1) rfl rfl (vb (i6 r251.2) rfl rfl (vo 4000 (eA64u8 ((vrep 64 (0 : Int)))) rfl rfl (vs (eA64u8 r251.1) rfl rfl (fun _ => rfl) rfl rfl rfl rfl rfl rfl (vp (i6 r251.2) rfl (nx ⟨[(0, (eSu8 a0)), (21, (i6 r176.1)), (22, (ow 22)), (23, (ow 23)), (25, (ow 25)), (30, (ow 30)), (31, (i6 r251.2))], [(22, (bk (eA64u8 r176.2.1))), (23, (bk (eA64u8 r176.2.2))), (25, (bk (eA64u8 r182.2.1))), (30, (bk (eA64u8 r251.1)))]⟩ (by kernel_rfl) (sr (vp (i6 r176.1) rfl ?_)))))))))
                  refine vl (eA64u8 r251.1) rfl rfl rfl rfl rfl rfl (vl (eA64u8 r182.2.1) rfl rfl rfl rfl rfl rfl ?_)
                  obtain ⟨r256, hr257, h⟩ := bind_some h
                  refine a_call (args := [(i6 r176.1), (eA64u8 r251.1), (eA64u8 r182.2.1)]) (u := []) (r := (.tuple [(eA64u8 r256.1), (i6 r256.2)])) rfl rfl (impl_AddPolys_ok r176.1 r251.1 r182.2.1 r256 hr257) rfl (vp (.tuple [(eA64u8 r256.1), (i6 r256.2)]) rfl (vb (eA64u8 r256.1) rfl rfl (vb (i6 r256.2) rfl rfl (vo 4200 (eA64u8 ((vrep 64 (0 : Int)))) rfl rfl (vs (eA64u8 r256.1) rfl rfl (fun _ => rfl) rfl rfl rfl rfl rfl rfl (vp (i6 r256.2) rfl (nx ⟨[(0, (eSu8 a0)), (21, (i6 r176.1)), (22, (ow 22)), (23, (ow 23)), (25, (ow 25)), (31, (i6 r251.2)), (32, (ow 32)), (33, (i6 r256.2))], [(22, (bk (eA64u8 r176.2.1))), (23, (bk (eA64u8 r176.2.2))), (25, (bk (eA64u8 r182.2.1))), (32, (bk (eA64u8 r256.1)))]⟩ (by kernel_rfl) (sr (vp (i6 r176.1) rfl ?_)))))))))
                  refine vl (eA64u8 r182.2.1) rfl rfl rfl rfl rfl rfl ?_
                  obtain ⟨r260, hr261, h⟩ := bind_some h
                  refine a_call (args := [(i6 r176.1), (eA64u8 r182.2.1)]) (u := []) (r := (.tuple [(i6 r260.1), (i6 r260.2)])) rfl rfl (impl_DegreeOf_ok r176.1 r182.2.1 r260 hr261) rfl (vp (.tuple [(i6 r260.1), (i6 r260.2)]) rfl (vb (i6 r260.1) rfl rfl (vb (i6 r260.2) rfl rfl (vp (i6 r260.1) rfl (vp (i6 r260.2) rfl (nx ⟨[(0, (eSu8 a0)), (21, (i6 r176.1)), (22, (ow 22)), (23, (ow 23)), (31, (i6 r251.2)), (32, (ow 32)), (33, (i6 r256.2)), (34, (i6 r260.1)), (35, (i6 r260.2))], [(22, (bk (eA64u8 r176.2.1))), (23, (bk (eA64u8 r176.2.2))), (32, (bk (eA64u8 r256.1)))]⟩ (by kernel_rfl) (sr (vp (i6 r176.1) rfl (vl (eA64u8 r176.2.2) rfl rfl rfl rfl rfl rfl ?_)))))))))
                  obtain ⟨r263, hr264, h⟩ := bind_some h
                  refine a_call (args := [(i6 r176.1), (eA64u8 r176.2.2)]) (u := []) (r := (.tuple [(i6 r263.1), (i6 r263.2)])) rfl rfl (impl_DegreeOf_ok r176.1 r176.2.2 r263 hr264) rfl (vp (.tuple [(i6 r263.1), (i6 r263.2)]) rfl (vb (i6 r263.1) rfl rfl (vb (i6 r263.2) rfl rfl (vp (i6 r263.1) rfl (vp (i6 r263.2) rfl (nx ⟨[(0, (eSu8 a0)), (22, (ow 22)), (31, (i6 r251.2)), (32, (ow 32)), (33, (i6 r256.2)), (34, (i6 r260.1)), (35, (i6 r260.2)), (36, (i6 r263.1)), (37, (i6 r263.2))], [(22, (bk (eA64u8 r176.2.1))), (32, (bk (eA64u8 r256.1)))]⟩ (by kernel_rfl) ?_))))))
                  obtain ⟨y273, hy274, hk275⟩ := bind_some h
                  clear h
                  refine a_join (emb := fun (s : Bool) => ⟨[(0, (eSu8 a0)), (249, (.bool s))], []⟩) (pre := fun s => s = y273) ?_ ?_
                  · rintro x272 rfl
                    have h := hk275
                    refine a_st (σ' := ⟨[(0, (eSu8 a0)), (249, (.bool x272))], []⟩) (by kernel_rfl) ?_
                    cases hb283 : x272
                    · have h := ite_f hb283 h
                      refine a_cond_f rfl (a_skip ?_)
                      exact j_leaf () (Option.some.inj h) (by kernel_rfl)
                    · have h := ite_t hb283 h
                      refine a_cond_t rfl (sr (vp (.bool false) rfl (nx _ rfl (a_ret (t_ret ?_)))))
                      cases h
                      have h := hk247
                      refine ⟨.inr rfl, ?_⟩
                      rw [Try.results3]
                      cases h
                      exact ⟨_, _, _, _, _, rfl, trivial, .inl ⟨rfl, .inl rfl⟩, rfl, rfl⟩
                  · have h := hy274
                    refine a_region (vp (i6 r251.2) rfl (vp (.bool (r251.2 != 0)) rfl (vp (.bool (r251.2 != 0)) rfl ?_)))
                    cases hb276 : (r251.2 != 0)
                    · have h := ite_f hb276 h
                      refine gp (i6 r256.2) rfl rfl (gp (.bool (r256.2 != 0)) rfl rfl (vp (.bool (r256.2 != 0)) rfl (vp (.bool (r256.2 != 0)) rfl ?_)))
                      cases hb277 : (r256.2 != 0)
                      · have h := ite_f hb277 h
                        refine gp (i6 r260.2) rfl rfl (gp (.bool (r260.2 != 0)) rfl rfl (vp (.bool (r260.2 != 0)) rfl (vp (.bool (r260.2 != 0)) rfl ?_)))
                        cases hb278 : (r260.2 != 0)
                        · have h := ite_f hb278 h
                          refine gp (i6 r263.2) rfl rfl (gp (.bool (r263.2 != 0)) rfl rfl (vp (.bool (r263.2 != 0)) rfl (vp (.bool (r263.2 != 0)) rfl ?_)))
                          cases hb279 : (r263.2 != 0)
                          · have h := ite_f hb279 h
                            have hl280 : LdOk [] (eA64u8 r256.1) [] 64 true (eA64u8 r256.1) := (.nil rfl rfl rfl)
                            refine gq (eA64u8 r256.1) rfl (ld_own (i := ⟨.arr 64 5, 64, 64, (eA64u8 (vrep 64 (0 : Int)))⟩) rfl rfl rfl hl280) hl280.c ?_
                            have hl281 : LdOk [] (eA64u8 r176.2.1) [] 64 true (eA64u8 r176.2.1) := (.nil rfl rfl rfl)
                            refine gq (eA64u8 r176.2.1) rfl (ld_own (i := ⟨.arr 64 5, 64, 64, (eA64u8 (vrep 64 (0 : Int)))⟩) rfl rfl rfl hl281) hl281.c (gq (.bool ((!decide (r256.1 = r176.2.1)))) rfl (nea_run (f := (AV.int .u8)) (a := r256.1.1) (b := r176.2.1.1) rfl rfl (eqb_vec (fun _ _ => eqb_int _ _) r256.1 r176.2.1)) (cmp_arr (g := 8) (f := (AV.int .u8)) (x := r256.1) (y := r176.2.1) rfl rfl rfl (fun _ _ => rfl) (fun _ _ => cmp_int rfl)) (vp (.bool ((!decide (r256.1 = r176.2.1)))) rfl (vp (.bool ((!decide (r256.1 = r176.2.1)))) rfl ?_)))
                            cases hb282 : (!decide (r256.1 = r176.2.1))
                            · have h := ite_f hb282 h
                              refine gp (i6 r260.1) rfl rfl (gp (i6 r263.1) rfl rfl (gp (.bool ((decide (r260.1 ≥ r263.1)))) rfl rfl (vp (.bool ((decide (r260.1 ≥ r263.1)))) rfl (a_nil ?_))))
                              exact j_leaf ((decide (r260.1 ≥ r263.1))) (Option.some.inj h) (by kernel_rfl)
                            · have h := ite_t hb282 h
                              refine a_gskip rfl (a_gskip rfl (a_gskip rfl (vp (.bool true) rfl (a_nil ?_))))
                              exact j_leaf true (Option.some.inj h) (by kernel_rfl)
                          · have h := ite_t hb279 h
                            refine a_gskip rfl (a_gskip rfl (a_gskip rfl (vp (.bool true) rfl (vp (.bool true) rfl (a_gskip rfl (a_gskip rfl (a_gskip rfl (vp (.bool true) rfl (a_nil ?_)))))))))
                            exact j_leaf true (Option.some.inj h) (by kernel_rfl)
                        · have h := ite_t hb278 h
                          refine a_gskip rfl (a_gskip rfl (vp (.bool true) rfl (vp (.bool true) rfl (a_gskip rfl (a_gskip rfl (a_gskip rfl (vp (.bool true) rfl (vp (.bool true) rfl (a_gskip rfl ?_)))))))))
                          refine a_gskip rfl (a_gskip rfl (vp (.bool true) rfl (a_nil ?_)))
                          exact j_leaf true (Option.some.inj h) (by kernel_rfl)
                      · have h := ite_t hb277 h
                        refine a_gskip rfl (a_gskip rfl (vp (.bool true) rfl (vp (.bool true) rfl (a_gskip rfl (a_gskip rfl (vp (.bool true) rfl (vp (.bool true) rfl (a_gskip rfl (a_gskip rfl ?_)))))))))
                        refine a_gskip rfl (vp (.bool true) rfl (vp (.bool true) rfl (a_gskip rfl (a_gskip rfl (a_gskip rfl (vp (.bool true) rfl (a_nil ?_)))))))
                        exact j_leaf true (Option.some.inj h) (by kernel_rfl)
                    · have h := ite_t hb276 h
                      refine a_gskip rfl (a_gskip rfl (vp (.bool true) rfl (vp (.bool true) rfl (a_gskip rfl (a_gskip rfl (vp (.bool true) rfl (vp (.bool true) rfl (a_gskip rfl (a_gskip rfl ?_)))))))))
                      refine vp (.bool true) rfl (vp (.bool true) rfl (a_gskip rfl (a_gskip rfl (a_gskip rfl (vp (.bool true) rfl (vp (.bool true) rfl (a_gskip rfl (a_gskip rfl (a_gskip rfl ?_)))))))))
                      refine vp (.bool true) rfl (a_nil ?_)
                      exact j_leaf true (Option.some.inj h) (by kernel_rfl)
            · have h := ite_t hb208 h
              refine a_cond_t rfl (sr (vp (.bool false) rfl (nx _ rfl (a_ret (t_ret ?_)))))
              refine ⟨.inr rfl, ?_⟩
              rw [Try.results3]
              cases h
              exact ⟨_, _, _, _, _, rfl, trivial, .inl ⟨rfl, .inl rfl⟩, rfl, rfl⟩
          · have h := hy200
            refine a_region (vp (i6 r182.2.2) rfl (vp (i6 r188.2.2) rfl (vp (.bool (r182.2.2 != r188.2.2)) rfl (vp (.bool (r182.2.2 != r188.2.2)) rfl ?_))))
            cases hb202 : (r182.2.2 != r188.2.2)
            · have h := ite_f hb202 h
              have hl203 : LdOk [] (eA64u8 r182.1) [] 64 true (eA64u8 r182.1) := (.nil rfl rfl rfl)
              refine gq (eA64u8 r182.1) rfl (ld_own (i := ⟨.arr 64 5, 64, 64, (eA64u8 (vrep 64 (0 : Int)))⟩) rfl rfl rfl hl203) hl203.c ?_
              have hl204 : LdOk [] (eA64u8 r188.1) [] 64 true (eA64u8 r188.1) := (.nil rfl rfl rfl)
              refine gq (eA64u8 r188.1) rfl (ld_own (i := ⟨.arr 64 5, 64, 64, (eA64u8 (vrep 64 (0 : Int)))⟩) rfl rfl rfl hl204) hl204.c (gq (.bool ((!decide (r182.1 = r188.1)))) rfl (nea_run (f := (AV.int .u8)) (a := r182.1.1) (b := r188.1.1) rfl rfl (eqb_vec (fun _ _ => eqb_int _ _) r182.1 r188.1)) (cmp_arr (g := 8) (f := (AV.int .u8)) (x := r182.1) (y := r188.1) rfl rfl rfl (fun _ _ => rfl) (fun _ _ => cmp_int rfl)) (vp (.bool ((!decide (r182.1 = r188.1)))) rfl (vp (.bool ((!decide (r182.1 = r188.1)))) rfl ?_)))
              cases hb205 : (!decide (r182.1 = r188.1))
              · have h := ite_f hb205 h
                have hl206 : LdOk [] (eA64u8 r182.2.1) [] 64 true (eA64u8 r182.2.1) := (.nil rfl rfl rfl)
                refine gq (eA64u8 r182.2.1) rfl (ld_own (i := ⟨.arr 64 5, 64, 64, (eA64u8 (vrep 64 (0 : Int)))⟩) rfl rfl rfl hl206) hl206.c ?_
                have hl207 : LdOk [] (eA64u8 r188.2.1) [] 64 true (eA64u8 r188.2.1) := (.nil rfl rfl rfl)
                refine gq (eA64u8 r188.2.1) rfl (ld_own (i := ⟨.arr 64 5, 64, 64, (eA64u8 (vrep 64 (0 : Int)))⟩) rfl rfl rfl hl207) hl207.c (gq (.bool ((!decide (r182.2.1 = r188.2.1)))) rfl (nea_run (f := (AV.int .u8)) (a := r182.2.1.1) (b := r188.2.1.1) rfl rfl (eqb_vec (fun _ _ => eqb_int _ _) r182.2.1 r188.2.1)) (cmp_arr (g := 8) (f := (AV.int .u8)) (x := r182.2.1) (y := r188.2.1) rfl rfl rfl (fun _ _ => rfl) (fun _ _ => cmp_int rfl)) (vp (.bool ((!decide (r182.2.1 = r188.2.1)))) rfl (a_nil ?_)))
                exact j_leaf ((!decide (r182.2.1 = r188.2.1))) (Option.some.inj h) (by kernel_rfl)
              · have h := ite_t hb205 h
                refine a_gskip rfl (a_gskip rfl (a_gskip rfl (vp (.bool true) rfl (a_nil ?_))))
                exact j_leaf true (Option.some.inj h) (by kernel_rfl)
            · have h := ite_t hb202 h
              refine a_gskip rfl (a_gskip rfl (a_gskip rfl (vp (.bool true) rfl (vp (.bool true) rfl (a_gskip rfl (a_gskip rfl (a_gskip rfl (vp (.bool true) rfl (a_nil ?_)))))))))
              exact j_leaf true (Option.some.inj h) (by kernel_rfl)
        · have h := hy119
          refine sr (vp (i6 r10.2) rfl (vp (.bool (r10.2 == 0)) rfl (nx ⟨[(0, (eSu8 a0)), (3, (i6 r4.1)), (4, (ow 4)), (5, (ow 5)), (6, (ow 6)), (97, (.bool (r10.2 == 0)))], [(4, (bk (eA64u8 r4.2.1))), (5, (bk (eA64u8 r4.2.2))), (6, (bk (eA64u8 r10.1)))]⟩ (by kernel_rfl) ?_)))
          cases hb121 : (r10.2 == 0)
          · have h := ite_f hb121 h
            refine a_cond_f rfl (a_skip ?_)
            exact j_leaf () (Option.some.inj h) (by kernel_rfl)
          · have h := ite_t hb121 h
            refine a_cond_t rfl (sr (vp (i6 r4.1) rfl (vl (eA64u8 r4.2.2) rfl rfl rfl rfl rfl rfl (vl (eA64u8 r4.2.1) rfl rfl rfl rfl rfl rfl ?_))))
            obtain ⟨r124, hr125, h⟩ := bind_some h
            refine a_call (args := [(i6 r4.1), (eA64u8 r4.2.2), (eA64u8 r4.2.1)]) (u := []) (r := (.tuple [(eA64u8 r124.1), (i6 r124.2)])) rfl rfl (impl_MultiplyPolys_ok r4.1 r4.2.2 r4.2.1 r124 hr125) rfl (vp (.tuple [(eA64u8 r124.1), (i6 r124.2)]) rfl (vb (eA64u8 r124.1) rfl rfl (vb (i6 r124.2) rfl rfl (vo 2000 (eA64u8 ((vrep 64 (0 : Int)))) rfl rfl (vs (eA64u8 r124.1) rfl rfl (fun _ => rfl) rfl rfl rfl rfl rfl rfl (vp (i6 r124.2) rfl (nx ⟨[(0, (eSu8 a0)), (3, (i6 r4.1)), (4, (ow 4)), (5, (ow 5)), (6, (ow 6)), (10, (ow 10)), (11, (i6 r124.2))], [(4, (bk (eA64u8 r4.2.1))), (5, (bk (eA64u8 r4.2.2))), (6, (bk (eA64u8 r10.1))), (10, (bk (eA64u8 r124.1)))]⟩ (by kernel_rfl) (sr (vl (eA64u8 r4.2.2) rfl rfl rfl rfl rfl rfl ?_)))))))))
            obtain ⟨r128, hr129, h⟩ := bind_some h
            refine a_call (args := [(eA64u8 r4.2.2), (i6 8)]) (u := []) (r := (eA64u8 r128)) rfl rfl (laws_small5_ok r4.2.2 8 r128 hr129) rfl (vo 2200 (eA64u8 ((vrep 64 (0 : Int)))) rfl rfl (vs (eA64u8 r128) rfl rfl (fun _ => rfl) rfl rfl rfl rfl rfl rfl (nx ⟨[(0, (eSu8 a0)), (3, (i6 r4.1)), (4, (ow 4)), (5, (ow 5)), (6, (ow 6)), (10, (ow 10)), (11, (i6 r124.2)), (12, (ow 12))], [(4, (bk (eA64u8 r4.2.1))), (5, (bk (eA64u8 r4.2.2))), (6, (bk (eA64u8 r10.1))), (10, (bk (eA64u8 r124.1))), (12, (bk (eA64u8 r128)))]⟩ (by kernel_rfl) (sr (vp (i6 r4.1) rfl (vl (eA64u8 r4.2.2) rfl rfl rfl rfl rfl rfl (vl (eA64u8 r128) rfl rfl rfl rfl rfl rfl ?_)))))))
            obtain ⟨r133, hr134, h⟩ := bind_some h
            refine a_call (args := [(i6 r4.1), (eA64u8 r4.2.2), (eA64u8 r128)]) (u := []) (r := (.tuple [(eA64u8 r133.1), (i6 r133.2)])) rfl rfl (impl_AddPolys_ok r4.1 r4.2.2 r128 r133 hr134) rfl (vp (.tuple [(eA64u8 r133.1), (i6 r133.2)]) rfl (vb (eA64u8 r133.1) rfl rfl (vb (i6 r133.2) rfl rfl (vo 2300 (eA64u8 ((vrep 64 (0 : Int)))) rfl rfl (vs (eA64u8 r133.1) rfl rfl (fun _ => rfl) rfl rfl rfl rfl rfl rfl (vp (i6 r133.2) rfl (nx ⟨[(0, (eSu8 a0)), (3, (i6 r4.1)), (4, (ow 4)), (6, (ow 6)), (10, (ow 10)), (11, (i6 r124.2)), (12, (ow 12)), (13, (ow 13)), (14, (i6 r133.2))], [(4, (bk (eA64u8 r4.2.1))), (6, (bk (eA64u8 r10.1))), (10, (bk (eA64u8 r124.1))), (12, (bk (eA64u8 r128))), (13, (bk (eA64u8 r133.1)))]⟩ (by kernel_rfl) (sr (vp (i6 r4.1) rfl ?_)))))))))
            refine vl (eA64u8 r4.2.1) rfl rfl rfl rfl rfl rfl (vl (eA64u8 r133.1) rfl rfl rfl rfl rfl rfl ?_)
            obtain ⟨r138, hr139, h⟩ := bind_some h
            refine a_call (args := [(i6 r4.1), (eA64u8 r4.2.1), (eA64u8 r133.1)]) (u := []) (r := (.tuple [(eA64u8 r138.1), (i6 r138.2)])) rfl rfl (impl_MultiplyPolys_ok r4.1 r4.2.1 r133.1 r138 hr139) rfl (vp (.tuple [(eA64u8 r138.1), (i6 r138.2)]) rfl (vb (eA64u8 r138.1) rfl rfl (vb (i6 r138.2) rfl rfl (vo 2500 (eA64u8 ((vrep 64 (0 : Int)))) rfl rfl (vs (eA64u8 r138.1) rfl rfl (fun _ => rfl) rfl rfl rfl rfl rfl rfl (vp (i6 r138.2) rfl (nx ⟨[(0, (eSu8 a0)), (3, (i6 r4.1)), (4, (ow 4)), (6, (ow 6)), (10, (ow 10)), (11, (i6 r124.2)), (12, (ow 12)), (14, (i6 r133.2)), (15, (ow 15)), (16, (i6 r138.2))], [(4, (bk (eA64u8 r4.2.1))), (6, (bk (eA64u8 r10.1))), (10, (bk (eA64u8 r124.1))), (12, (bk (eA64u8 r128))), (15, (bk (eA64u8 r138.1)))]⟩ (by kernel_rfl) (sr (vp (i6 r4.1) rfl ?_)))))))))
            refine vl (eA64u8 r4.2.1) rfl rfl rfl rfl rfl rfl (vl (eA64u8 r128) rfl rfl rfl rfl rfl rfl ?_)
            obtain ⟨r143, hr144, h⟩ := bind_some h
            refine a_call (args := [(i6 r4.1), (eA64u8 r4.2.1), (eA64u8 r128)]) (u := []) (r := (.tuple [(eA64u8 r143.1), (i6 r143.2)])) rfl rfl (impl_MultiplyPolys_ok r4.1 r4.2.1 r128 r143 hr144) rfl (vp (.tuple [(eA64u8 r143.1), (i6 r143.2)]) rfl (vb (eA64u8 r143.1) rfl rfl (vb (i6 r143.2) rfl rfl (vo 2700 (eA64u8 ((vrep 64 (0 : Int)))) rfl rfl (vs (eA64u8 r143.1) rfl rfl (fun _ => rfl) rfl rfl rfl rfl rfl rfl (vp (i6 r143.2) rfl (nx ⟨[(0, (eSu8 a0)), (3, (i6 r4.1)), (6, (ow 6)), (10, (ow 10)), (11, (i6 r124.2)), (14, (i6 r133.2)), (15, (ow 15)), (16, (i6 r138.2)), (17, (ow 17)), (18, (i6 r143.2))], [(6, (bk (eA64u8 r10.1))), (10, (bk (eA64u8 r124.1))), (15, (bk (eA64u8 r138.1))), (17, (bk (eA64u8 r143.1)))]⟩ (by kernel_rfl) (sr (vp (i6 r4.1) rfl ?_)))))))))
            refine vl (eA64u8 r10.1) rfl rfl rfl rfl rfl rfl (vl (eA64u8 r143.1) rfl rfl rfl rfl rfl rfl ?_)
            obtain ⟨r148, hr149, h⟩ := bind_some h
            refine a_call (args := [(i6 r4.1), (eA64u8 r10.1), (eA64u8 r143.1)]) (u := []) (r := (.tuple [(eA64u8 r148.1), (i6 r148.2)])) rfl rfl (impl_AddPolys_ok r4.1 r10.1 r143.1 r148 hr149) rfl (vp (.tuple [(eA64u8 r148.1), (i6 r148.2)]) rfl (vb (eA64u8 r148.1) rfl rfl (vb (i6 r148.2) rfl rfl (vo 2900 (eA64u8 ((vrep 64 (0 : Int)))) rfl rfl (vs (eA64u8 r148.1) rfl rfl (fun _ => rfl) rfl rfl rfl rfl rfl rfl (vp (i6 r148.2) rfl (nx ⟨[(0, (eSu8 a0)), (6, (ow 6)), (10, (ow 10)), (11, (i6 r124.2)), (14, (i6 r133.2)), (15, (ow 15)), (16, (i6 r138.2)), (18, (i6 r143.2)), (19, (ow 19)), (20, (i6 r148.2))], [(6, (bk (eA64u8 r10.1))), (10, (bk (eA64u8 r124.1))), (15, (bk (eA64u8 r138.1))), (19, (bk (eA64u8 r148.1)))]⟩ (by kernel_rfl) ?_)))))))
            obtain ⟨y162, hy163, hk164⟩ := bind_some h
            clear h
            refine a_join (emb := fun (s : Bool) => ⟨[(0, (eSu8 a0)), (162, (.bool s))], []⟩) (pre := fun s => s = y162) ?_ ?_
            · rintro x161 rfl
              have h := hk164
              refine a_st (σ' := ⟨[(0, (eSu8 a0)), (162, (.bool x161))], []⟩) (by kernel_rfl) ?_
              cases hb175 : x161
              · have h := ite_f hb175 h
                refine a_cond_f rfl (a_skip ?_)
                exact j_leaf () (Option.some.inj h) (by kernel_rfl)
              · have h := ite_t hb175 h
                refine a_cond_t rfl (sr (vp (.bool false) rfl (nx _ rfl (a_ret (t_ret ?_)))))
                cases h
                have h := hk120
                refine ⟨.inr rfl, ?_⟩
                rw [Try.results3]
                cases h
                exact ⟨_, _, _, _, _, rfl, trivial, .inl ⟨rfl, .inl rfl⟩, rfl, rfl⟩
            · have h := hy163
              refine a_region (vp (i6 r124.2) rfl (vp (.bool (r124.2 != 0)) rfl (vp (.bool (r124.2 != 0)) rfl ?_)))
              cases hb165 : (r124.2 != 0)
              · have h := ite_f hb165 h
                refine gp (i6 r133.2) rfl rfl (gp (.bool (r133.2 != 0)) rfl rfl (vp (.bool (r133.2 != 0)) rfl (vp (.bool (r133.2 != 0)) rfl ?_)))
                cases hb166 : (r133.2 != 0)
                · have h := ite_f hb166 h
                  have hl167 : LdOk [] (eA64u8 r124.1) [] 64 true (eA64u8 r124.1) := (.nil rfl rfl rfl)
                  refine gq (eA64u8 r124.1) rfl (ld_own (i := ⟨.arr 64 5, 64, 64, (eA64u8 (vrep 64 (0 : Int)))⟩) rfl rfl rfl hl167) hl167.c ?_
                  have hl168 : LdOk [] (eA64u8 r10.1) [] 64 true (eA64u8 r10.1) := (.nil rfl rfl rfl)
                  refine gq (eA64u8 r10.1) rfl (ld_own (i := ⟨.arr 64 5, 64, 64, (eA64u8 (vrep 64 (0 : Int)))⟩) rfl rfl rfl hl168) hl168.c (gq (.bool ((!decide (r124.1 = r10.1)))) rfl (nea_run (f := (AV.int .u8)) (a := r124.1.1) (b := r10.1.1) rfl rfl (eqb_vec (fun _ _ => eqb_int _ _) r124.1 r10.1)) (cmp_arr (g := 8) (f := (AV.int .u8)) (x := r124.1) (y := r10.1) rfl rfl rfl (fun _ _ => rfl) (fun _ _ => cmp_int rfl)) (vp (.bool ((!decide (r124.1 = r10.1)))) rfl (vp (.bool ((!decide (r124.1 = r10.1)))) rfl ?_)))
                  cases hb169 : (!decide (r124.1 = r10.1))
                  · have h := ite_f hb169 h
                    refine gp (i6 r138.2) rfl rfl (gp (.bool (r138.2 == 0)) rfl rfl (gp (.bool (r138.2 == 0)) rfl rfl ?_))
                    cases hb170 : (r138.2 == 0)
                    · have h := ite_f hb170 h
                      refine a_gskip rfl (a_gskip rfl (gp (.bool false) rfl rfl (gp (.bool false) rfl rfl (a_gskip rfl (a_gskip rfl (a_gskip rfl (a_gskip0 rfl (a_gskip0 rfl (a_gskip0 rfl ?_)))))))))
                      refine a_gskip rfl (gp (.bool false) rfl rfl (vp (.bool false) rfl (a_nil ?_)))
                      exact j_leaf false (Option.some.inj h) (by kernel_rfl)
                    · have h := ite_t hb170 h
                      refine gp (i6 r143.2) rfl rfl (gp (.bool (r143.2 == 0)) rfl rfl (gp (.bool (r143.2 == 0)) rfl rfl (gp (.bool (r143.2 == 0)) rfl rfl ?_)))
                      cases hb171 : (r143.2 == 0)
                      · have h := ite_f hb171 h
                        refine a_gskip rfl (a_gskip rfl (a_gskip rfl (a_gskip0 rfl (a_gskip0 rfl (a_gskip0 rfl (a_gskip rfl (gp (.bool false) rfl rfl (vp (.bool false) rfl (a_nil ?_)))))))))
                        exact j_leaf false (Option.some.inj h) (by kernel_rfl)
                      · have h := ite_t hb171 h
                        refine gp (i6 r148.2) rfl rfl (gp (.bool (r148.2 != 0)) rfl rfl (gp (.bool (r148.2 != 0)) rfl rfl ?_))
                        cases hb172 : (r148.2 != 0)
                        · have h := ite_f hb172 h
                          have hl173 : LdOk [] (eA64u8 r138.1) [] 64 true (eA64u8 r138.1) := (.nil rfl rfl rfl)
                          refine gq (eA64u8 r138.1) rfl (ld_own (i := ⟨.arr 64 5, 64, 64, (eA64u8 (vrep 64 (0 : Int)))⟩) rfl rfl rfl hl173) hl173.c ?_
                          have hl174 : LdOk [] (eA64u8 r148.1) [] 64 true (eA64u8 r148.1) := (.nil rfl rfl rfl)
                          refine gq (eA64u8 r148.1) rfl (ld_own (i := ⟨.arr 64 5, 64, 64, (eA64u8 (vrep 64 (0 : Int)))⟩) rfl rfl rfl hl174) hl174.c (gq (.bool ((!decide (r138.1 = r148.1)))) rfl (nea_run (f := (AV.int .u8)) (a := r138.1.1) (b := r148.1.1) rfl rfl (eqb_vec (fun _ _ => eqb_int _ _) r138.1 r148.1)) (cmp_arr (g := 8) (f := (AV.int .u8)) (x := r138.1) (y := r148.1) rfl rfl rfl (fun _ _ => rfl) (fun _ _ => cmp_int rfl)) (gp (.bool ((!decide (r138.1 = r148.1)))) rfl rfl (gp (.bool ((!decide (r138.1 = r148.1)))) rfl rfl (vp (.bool ((!decide (r138.1 = r148.1)))) rfl (a_nil ?_)))))
                          exact j_leaf ((!decide (r138.1 = r148.1))) (Option.some.inj h) (by kernel_rfl)
                        · have h := ite_t hb172 h
                          refine a_gskip rfl (a_gskip rfl (a_gskip rfl (gp (.bool true) rfl rfl (gp (.bool true) rfl rfl (vp (.bool true) rfl (a_nil ?_))))))
                          exact j_leaf true (Option.some.inj h) (by kernel_rfl)
                  · have h := ite_t hb169 h
                    refine a_gskip rfl (a_gskip rfl (a_gskip rfl (a_gskip0 rfl (a_gskip0 rfl (a_gskip rfl (a_gskip rfl (a_gskip0 rfl (a_gskip0 rfl (a_gskip0 rfl ?_)))))))))
                    refine a_gskip0 rfl (a_gskip0 rfl (a_gskip0 rfl (a_gskip0 rfl (a_gskip rfl (vp (.bool true) rfl (a_nil ?_))))))
                    exact j_leaf true (Option.some.inj h) (by kernel_rfl)
                · have h := ite_t hb166 h
                  refine a_gskip rfl (a_gskip rfl (a_gskip rfl (vp (.bool true) rfl (vp (.bool true) rfl (a_gskip rfl (a_gskip rfl (a_gskip rfl (a_gskip0 rfl (a_gskip0 rfl ?_)))))))))
                  refine a_gskip rfl (a_gskip rfl (a_gskip0 rfl (a_gskip0 rfl (a_gskip0 rfl (a_gskip0 rfl (a_gskip0 rfl (a_gskip0 rfl (a_gskip0 rfl (a_gskip rfl ?_)))))))))
                  refine vp (.bool true) rfl (a_nil ?_)
                  exact j_leaf true (Option.some.inj h) (by kernel_rfl)
              · have h := ite_t hb165 h
                refine a_gskip rfl (a_gskip rfl (vp (.bool true) rfl (vp (.bool true) rfl (a_gskip rfl (a_gskip rfl (a_gskip rfl (vp (.bool true) rfl (vp (.bool true) rfl (a_gskip rfl ?_)))))))))
                refine a_gskip rfl (a_gskip rfl (a_gskip0 rfl (a_gskip0 rfl (a_gskip rfl (a_gskip rfl (a_gskip0 rfl (a_gskip0 rfl (a_gskip0 rfl (a_gskip0 rfl ?_)))))))))
                refine a_gskip0 rfl (a_gskip0 rfl (a_gskip0 rfl (a_gskip rfl (vp (.bool true) rfl (a_nil ?_)))))
                exact j_leaf true (Option.some.inj h) (by kernel_rfl)
      · have h := ite_t hb62 h
        refine a_cond_t rfl (sr (vp (.bool false) rfl (nx _ rfl (a_ret (t_ret ?_)))))
        refine ⟨.inr rfl, ?_⟩
        rw [Try.results3]
        cases h
        exact ⟨_, _, _, _, _, rfl, trivial, .inl ⟨rfl, .inl rfl⟩, rfl, rfl⟩
    · have h := hy40
      refine a_draw [⟨[], [], [], []⟩, ⟨[], [], [], []⟩, ⟨[], [], [], [0, 1]⟩, ⟨[], [], [], [0, 1, 2]⟩, ⟨[6], [], [], [0, 1, 2, 3]⟩, ⟨[8], [], [], [0, 1, 2, 3]⟩, ⟨[], [], [], [0, 1, 2, 3, 4, 5]⟩, ⟨[], [], [], [0, 1, 2, 3, 4, 5, 6]⟩, ⟨[], [], [], [0, 1, 2, 3, 4, 5, 6, 7]⟩, ⟨[], [], [], [0, 1, 2, 3, 4, 5, 6, 7, 8]⟩, ⟨[4], [], [], [0, 1, 2, 3, 4, 5, 6, 7, 8]⟩, ⟨[], [], [], [0, 1, 2, 3, 4, 5, 6, 7, 8, 9, 10]⟩, ⟨[], [], [], [0, 1, 2, 3, 4, 5, 6, 7, 8]⟩, ⟨[4], [], [], [0, 1, 2, 3, 4, 5, 6, 7, 8]⟩, ⟨[], [], [], [0, 1, 2, 3, 4, 5, 6, 7, 8, 9, 10, 11, 12, 13]⟩, ⟨[], [], [], [0, 1, 2, 3, 4, 5, 6, 7, 8, 9, 10, 11, 12, 13, 14]⟩, ⟨[], [], [], [0, 1, 2, 3, 4, 5, 6, 7, 8, 9, 10, 11, 12, 13, 14, 15]⟩] (by kernel_rfl) (dp (i6 r10.2) rfl (by kernel_rfl) (dp (i6 r15.2) rfl (by kernel_rfl) (dp (.bool (r10.2 != r15.2)) rfl (by kernel_rfl) (dp (.bool (r10.2 != r15.2)) rfl (by kernel_rfl) ?_))))
      cases hb52 : (r10.2 != r15.2)
      · have h := ite_f hb52 h
        refine d_cons ?_
        have hl53 : LdOk [] (eA64u8 r10.1) [] 64 true (eA64u8 r10.1) := (.nil rfl rfl rfl)
        refine gq (eA64u8 r10.1) rfl (ld_own (i := ⟨.arr 64 5, 64, 64, (eA64u8 (vrep 64 (0 : Int)))⟩) rfl rfl rfl hl53) hl53.c (d_next (by kernel_rfl) (d_cons ?_))
        have hl54 : LdOk [] (eA64u8 r15.1) [] 64 true (eA64u8 r15.1) := (.nil rfl rfl rfl)
        refine gq (eA64u8 r15.1) rfl (ld_own (i := ⟨.arr 64 5, 64, 64, (eA64u8 (vrep 64 (0 : Int)))⟩) rfl rfl rfl hl54) hl54.c (d_next (by kernel_rfl) (d_cons (gq (.bool ((!decide (r10.1 = r15.1)))) rfl (nea_run (f := (AV.int .u8)) (a := r10.1.1) (b := r15.1.1) rfl rfl (eqb_vec (fun _ _ => eqb_int _ _) r10.1 r15.1)) (cmp_arr (g := 8) (f := (AV.int .u8)) (x := r10.1) (y := r15.1) rfl rfl rfl (fun _ _ => rfl) (fun _ _ => cmp_int rfl)) (d_next (by kernel_rfl) (dp (.bool ((!decide (r10.1 = r15.1)))) rfl (by kernel_rfl) (dp (.bool ((!decide (r10.1 = r15.1)))) rfl (by kernel_rfl) ?_))))))
        cases hb55 : (!decide (r10.1 = r15.1))
        · have h := ite_f hb55 h
          refine dg (i6 r4.1) rfl rfl (by kernel_rfl) (d_cons ?_)
          have hl56 : LdOk [] (eA64u8 r4.2.1) [] 64 true (eA64u8 r4.2.1) := (.nil rfl rfl rfl)
          refine gq (eA64u8 r4.2.1) rfl (ld_own (i := ⟨.arr 64 5, 64, 64, (eA64u8 (vrep 64 (0 : Int)))⟩) rfl rfl rfl hl56) hl56.c (d_next (by kernel_rfl) (d_cons ?_))
          obtain ⟨r57, hr58, h⟩ := bind_some h
          refine a_gcall rfl (args := [(i6 r4.1), (eA64u8 r4.2.1)]) (u := []) (r := (.bool r57)) rfl rfl (impl_IsPoly_ok r4.1 r4.2.1 r57 hr58) rfl (d_next (by kernel_rfl) (dg (i6 r4.1) rfl rfl (by kernel_rfl) (d_cons ?_)))
          have hl59 : LdOk [] (eA64u8 r4.2.1) [] 64 true (eA64u8 r4.2.1) := (.nil rfl rfl rfl)
          refine gq (eA64u8 r4.2.1) rfl (ld_own (i := ⟨.arr 64 5, 64, 64, (eA64u8 (vrep 64 (0 : Int)))⟩) rfl rfl rfl hl59) hl59.c (d_next (by kernel_rfl) (d_cons ?_))
          obtain ⟨r60, hr61, h⟩ := bind_some h
          refine a_gcall rfl (args := [(i6 r4.1), (eA64u8 r4.2.1)]) (u := []) (r := (.bool r60)) rfl rfl (spec_IsPoly_ok r4.1 r4.2.1 r60 hr61) rfl (d_next (by kernel_rfl) (dg (.bool ((!(r57 == r60)))) rfl rfl (by kernel_rfl) (dp (.bool ((!(r57 == r60)))) rfl (by kernel_rfl) (d_nil ?_))))
          exact j_leaf ((!(r57 == r60))) (Option.some.inj h) (by kernel_rfl)
        · have h := ite_t hb55 h
          refine dk rfl (by kernel_rfl) (dk rfl (by kernel_rfl) (dk rfl (by kernel_rfl) (dk rfl (by kernel_rfl) (dk rfl (by kernel_rfl) (dk rfl (by kernel_rfl) (dk rfl (by kernel_rfl) (dp (.bool true) rfl (by kernel_rfl) (d_nil ?_))))))))
          exact j_leaf true (Option.some.inj h) (by kernel_rfl)
      · have h := ite_t hb52 h
        refine dk rfl (by kernel_rfl) (dk rfl (by kernel_rfl) (dk rfl (by kernel_rfl) (dp (.bool true) rfl (by kernel_rfl) (dp (.bool true) rfl (by kernel_rfl) (dk rfl (by kernel_rfl) (dk rfl (by kernel_rfl) (dk rfl (by kernel_rfl) (dk rfl (by kernel_rfl) (dk rfl (by kernel_rfl) ?_)))))))))
        refine dk rfl (by kernel_rfl) (dk rfl (by kernel_rfl) (dp (.bool true) rfl (by kernel_rfl) (d_nil ?_)))
        exact j_leaf true (Option.some.inj h) (by kernel_rfl)
  · have h := ite_t hb3 h
    refine a_cond_t rfl (sr (vp (.bool true) rfl (nx _ rfl (a_ret (t_ret ?_)))))
    refine ⟨.inr rfl, ?_⟩
    rw [Try.results3]
    cases h
    exact ⟨_, _, _, _, _, rfl, trivial, .inl ⟨rfl, .inl rfl⟩, rfl, rfl⟩
end Go.Proofs.Ytkbnegemdlnncaa
