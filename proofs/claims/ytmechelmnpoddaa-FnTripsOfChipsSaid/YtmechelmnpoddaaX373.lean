/-
  Texts of the seat, merged (part 3).
-/
import Derived.Test.YtmechelmnpoddaaX372
set_option linter.unusedVariables false
set_option linter.unusedSimpArgs false
namespace Go.Proofs.Ytmechelmnpoddaa.F9
open Go.Proofs.Ytmechelmnpoddaa
open Go.RowKit YtmechelmnpoddaaW.PrintWords YtmechelmnpoddaaW.PrintLast YtmechelmnpoddaaW.PrintMore
open A7 E7 F7 H7
attribute [local go_sem] max2_int min2_int max_two min_two max_three min_three max_four min_four
mutual
def laws_FnTripsOfChips.j0 : Nat → List Int → Int → Int → Int → Int → List Int → Bool → Int → List Int → Bool → Option (Bool)
 | 0, _, _, _, _, _, _, _, _, _, _ => none
 | k + 1, x1, x5, x6, x7, x8, x9, x10, x13, x17, x151 => if x151 = true then (some false) else (if x10 = true then ((impl_EscapesOf.f k x5 x6 x7 x8).bind fun bt223 => ((impl_EscapeList.f x5 x6 x7 x8).bind fun bt225 => (if bt223.2 = true then (if bt225.2 = true then (if (x9.length : Int) = x8 then ((laws_xMost.f k x9).bind fun t229 => (if t229 = x13 then (if (x17.length : Int) = (wrap64 (x6 + 1)) then (if 0 ≤ x6 then (if x6 < (x17.length : Int) then (laws_FnTripsOfChips.j1 k x1 x6 x8 x9 x17 bt223.1 bt225.1 ((rd x17 x6) != bt223.1)) else (none)) else (none)) else (laws_FnTripsOfChips.j1 k x1 x6 x8 x9 x17 bt223.1 bt225.1 true)) else (laws_FnTripsOfChips.j1 k x1 x6 x8 x9 x17 bt223.1 bt225.1 true))) else (laws_FnTripsOfChips.j1 k x1 x6 x8 x9 x17 bt223.1 bt225.1 true)) else (laws_FnTripsOfChips.j1 k x1 x6 x8 x9 x17 bt223.1 bt225.1 true)) else (laws_FnTripsOfChips.j1 k x1 x6 x8 x9 x17 bt223.1 bt225.1 true)))) else (laws_FnTripsOfChips.j3 k x1))
def laws_FnTripsOfChips.j3 : Nat → List Int → Option (Bool)
 | 0, _ => none
 | k + 1, x1 => (spec_DrawRotorsOnLevel.f k x1).bind fun bt237 => ((impl_RotorsOnLevel.f bt237.1 bt237.2.1 bt237.2.2.1 bt237.2.2.2.1 bt237.2.2.2.2).bind fun bt242 => ((spec_RotorsOnLevel.f bt237.1 bt237.2.1 bt237.2.2.1 bt237.2.2.2.1 bt237.2.2.2.2).bind fun bt246 => (if (bt242.2 != bt246.2) = true then (laws_FnTripsOfChips.j4 k x1 bt237.1 bt237.2.1 bt237.2.2.1 bt237.2.2.2.1 bt237.2.2.2.2 bt242.1 bt242.2 true) else ((laws_xSame.f k bt242.1 bt246.1).bind fun t250 => (laws_FnTripsOfChips.j4 k x1 bt237.1 bt237.2.1 bt237.2.2.1 bt237.2.2.2.1 bt237.2.2.2.2 bt242.1 bt242.2 (!t250))))))
def laws_FnTripsOfChips.j4 : Nat → List Int → Int → Int → Int → Int → Int → List Int → Bool → Bool → Option (Bool)
 | 0, _, _, _, _, _, _, _, _, _ => none
 | k + 1, x1, x27, x28, x29, x30, x31, x32, x33, x284 => if x284 = true then (some false) else (if x33 = true then (laws_FnTripsOfChips.l1 k x1 x27 x28 x29 x30 x31 x32 1 0) else (laws_FnTripsOfChips.j8 k x1))
def laws_FnTripsOfChips.j8 : Nat → List Int → Option (Bool)
 | 0, _ => none
 | k + 1, x1 => (spec_DrawTurnedEscapes.f k x1).bind fun bt257 => ((impl_TurnedEscapes.f k bt257.1 bt257.2.1 bt257.2.2).bind fun bt260 => ((spec_TurnedEscapes.f bt257.1 bt257.2.1 bt257.2.2).bind fun bt264 => (if (bt260.2 != bt264.2) = true then (laws_FnTripsOfChips.j9 k bt257.1 bt257.2.1 bt257.2.2 bt260.1 bt260.2 true) else ((laws_xSame.f k bt260.1 bt264.1).bind fun t268 => (laws_FnTripsOfChips.j9 k bt257.1 bt257.2.1 bt257.2.2 bt260.1 bt260.2 (!t268))))))
def laws_FnTripsOfChips.j9 : Nat → Int → Int → Int → List Int → Bool → Bool → Option (Bool)
 | 0, _, _, _, _, _, _ => none
 | k + 1, x43, x44, x45, x46, x47, x373 => if x373 = true then (some false) else (if x47 = true then (laws_FnTripsOfChips.l3 k x43 x44 x45 x46 (x46.length : Int) 0) else (some true))
def laws_FnTripsOfChips.l3 : Nat → Int → Int → Int → List Int → Int → Int → Option (Bool)
 | 0, _, _, _, _, _, _ => none
 | k + 1, x43, x44, x45, x375, x376, x377 => if x377 < x376 then (if 0 ≤ x377 then (if x377 < (x375.length : Int) then ((impl_EscapesOf.f k x43 x44 x377 x45).bind fun bt270 => (if bt270.2 = true then (if bt270.1 = (rd x375 x377) then (laws_FnTripsOfChips.l3 k x43 x44 x45 x375 x376 (wrap64 (x377 + 1))) else (some false)) else (some false))) else (none)) else (none)) else (some true)
def laws_FnTripsOfChips.l1 : Nat → List Int → Int → Int → Int → Int → Int → List Int → Int → Int → Option (Bool)
 | 0, _, _, _, _, _, _, _, _, _ => none
 | k + 1, x1, x27, x28, x29, x30, x31, x32, x36, x37 => if x37 < x31 then (laws_FnTripsOfChips.l1 k x1 x27 x28 x29 x30 x31 x32 (wrap64 (x36 * x27)) (wrap64 (x37 + 1))) else ((impl_LevelVisits.f x27 x28 x29 x30).bind fun bt251 => (if bt251.2 = true then (laws_FnTripsOfChips.j6 k x1 x27 x29 x31 x32 bt251.1 ((x32.length : Int) != x36)) else (laws_FnTripsOfChips.j6 k x1 x27 x29 x31 x32 bt251.1 true)))
def laws_FnTripsOfChips.j6 : Nat → List Int → Int → Int → Int → List Int → List Int → Bool → Option (Bool)
 | 0, _, _, _, _, _, _, _ => none
 | k + 1, x1, x27, x29, x31, x32, x38, x309 => if x309 = true then (some false) else (laws_FnTripsOfChips.l2 k x1 x27 x29 x31 x38 0 x32 (x32.length : Int) 0)
def laws_FnTripsOfChips.l2 : Nat → List Int → Int → Int → Int → List Int → Int → List Int → Int → Int → Option (Bool)
 | 0, _, _, _, _, _, _, _, _, _ => none
 | k + 1, x1, x27, x29, x31, x38, x40, x310, x311, x312 => if x312 < x311 then (if 0 ≤ x312 then (if x312 < (x310.length : Int) then (if (rd x310 x312) < 0 then (some false) else (if (rd x310 x312) > x27 then (some false) else (laws_FnTripsOfChips.l2 k x1 x27 x29 x31 x38 (wrap64 (x40 + (wrap64 ((rd x310 x312) - x29)))) x310 x311 (wrap64 (x312 + 1))))) else (none)) else (none)) else (if 0 ≤ x31 then (if x31 < (x38.length : Int) then (if (wrap64 (x27 + 1)) = 0 then (none) else (if (Int.tmod (wrap64 ((Int.tmod (wrap64 (x40 - (rd x38 x31))) (wrap64 (x27 + 1))) + (wrap64 (x27 + 1)))) (wrap64 (x27 + 1))) = 0 then (laws_FnTripsOfChips.j8 k x1) else (some false))) else (none)) else (none))
def laws_FnTripsOfChips.j1 : Nat → List Int → Int → Int → List Int → List Int → Int → List Int → Bool → Option (Bool)
 | 0, _, _, _, _, _, _, _, _ => none
 | k + 1, x1, x6, x8, x9, x17, x21, x23, x201 => if x201 = true then (some false) else ((laws_xSum.f k x17).bind fun t231 => ((laws_xSum.f k x9).bind fun t232 => (if t231 = (wrap64 ((wrap64 (x8 + t232)) - (wrap64 (x8 - x21)))) then (laws_FnTripsOfChips.l0 k x1 x6 x23 x9 (x9.length : Int) 0) else (some false))))
def laws_FnTripsOfChips.l0 : Nat → List Int → Int → List Int → List Int → Int → Int → Option (Bool)
 | 0, _, _, _, _, _, _ => none
 | k + 1, x1, x6, x23, x213, x214, x215 => if x215 < x214 then (if 0 ≤ x215 then (if x215 < (x213.length : Int) then (if x215 < (x23.length : Int) then (if (rd x23 x215) = 1 then (if (rd x213 x215) < x6 then (some false) else (if (Int.tmod (wrap64 ((rd x213 x215) - x6)) 2) = 0 then (if (rd x23 x215) = 0 then (if (Int.tmod (rd x213 x215) 2) = 1 then (laws_FnTripsOfChips.l0 k x1 x6 x23 x213 x214 (wrap64 (x215 + 1))) else (some false)) else (laws_FnTripsOfChips.l0 k x1 x6 x23 x213 x214 (wrap64 (x215 + 1)))) else (some false))) else (if (rd x23 x215) = 0 then (if (Int.tmod (rd x213 x215) 2) = 1 then (laws_FnTripsOfChips.l0 k x1 x6 x23 x213 x214 (wrap64 (x215 + 1))) else (some false)) else (laws_FnTripsOfChips.l0 k x1 x6 x23 x213 x214 (wrap64 (x215 + 1))))) else (none)) else (none)) else (none)) else (laws_FnTripsOfChips.j3 k x1)
end
def laws_FnTripsOfChips.f (k : Nat) (l0 : List Int) (l1 : List Int) : Option (Bool) := (laws_big.f l0 l1).bind fun t196 => (if t196 = true then (some true) else ((spec_DrawTripsOf.f k l0).bind fun bt197 => ((impl_TripsOf.f bt197.1 bt197.2.1 bt197.2.2.1 bt197.2.2.2).bind fun bt201 => ((spec_TripsOf.f bt197.1 bt197.2.1 bt197.2.2.1 bt197.2.2.2).bind fun bt205 => ((impl_LongestTrip.f bt197.1 bt197.2.1 bt197.2.2.1 bt197.2.2.2).bind fun bt209 => ((spec_LongestTrip.f bt197.1 bt197.2.1 bt197.2.2.1 bt197.2.2.2).bind fun bt211 => ((impl_LevelVisits.f bt197.1 bt197.2.1 bt197.2.2.1 bt197.2.2.2).bind fun bt213 => ((spec_LevelVisits.f bt197.1 bt197.2.1 bt197.2.2.1 bt197.2.2.2).bind fun bt217 => (if (bt201.2 != bt205.2) = true then (laws_FnTripsOfChips.j0 k l1 bt197.1 bt197.2.1 bt197.2.2.1 bt197.2.2.2 bt201.1 bt201.2 bt209.1 bt213.1 true) else ((laws_xSame.f k bt201.1 bt205.1).bind fun t221 => (if t221 = true then (if (bt209.2 != bt211.2) = true then (laws_FnTripsOfChips.j0 k l1 bt197.1 bt197.2.1 bt197.2.2.1 bt197.2.2.2 bt201.1 bt201.2 bt209.1 bt213.1 true) else (if bt209.1 = bt211.1 then (if (bt213.2 != bt217.2) = true then (laws_FnTripsOfChips.j0 k l1 bt197.1 bt197.2.1 bt197.2.2.1 bt197.2.2.2 bt201.1 bt201.2 bt209.1 bt213.1 true) else ((laws_xSame.f k bt213.1 bt217.1).bind fun t222 => (if t222 = true then (if (bt209.2 != bt201.2) = true then (laws_FnTripsOfChips.j0 k l1 bt197.1 bt197.2.1 bt197.2.2.1 bt197.2.2.2 bt201.1 bt201.2 bt209.1 bt213.1 true) else (laws_FnTripsOfChips.j0 k l1 bt197.1 bt197.2.1 bt197.2.2.1 bt197.2.2.2 bt201.1 bt201.2 bt209.1 bt213.1 (bt213.2 != bt201.2))) else (laws_FnTripsOfChips.j0 k l1 bt197.1 bt197.2.1 bt197.2.2.1 bt197.2.2.2 bt201.1 bt201.2 bt209.1 bt213.1 true)))) else (laws_FnTripsOfChips.j0 k l1 bt197.1 bt197.2.1 bt197.2.2.1 bt197.2.2.2 bt201.1 bt201.2 bt209.1 bt213.1 true))) else (laws_FnTripsOfChips.j0 k l1 bt197.1 bt197.2.1 bt197.2.2.1 bt197.2.2.2 bt201.1 bt201.2 bt209.1 bt213.1 true))))))))))))
def cm0 : List (Option Nat) := [none, none, none, none, none, none, none, none, none, none, none, none, none, none, none, none, none, none, none, none, none, none, none, none, none, none, none, none, none, none, none, none, none, none, none, none, none, none, none, none, none, none, none, none, none, none, none, none, none, none, none, none, none, none, some 54, some 55, some 56, some 57, some 58, some 59, some 60, some 61, some 62, some 63, some 64, some 65, some 66, some 67, some 68, some 69, some 70, some 71, some 72, some 73, some 74, some 75, some 76, some 77, some 78, some 79, some 80, some 81, some 82, some 83, some 84, some 85, some 86, some 87, some 88, some 89, some 90, some 91, some 92, some 93, some 94, some 95, some 96, some 97, some 98, some 99, some 100, some 101, some 102, some 103, some 104, some 105, some 106, some 107, some 108, some 109, some 110, some 111, some 112, some 113, some 114, some 115, some 116, some 117, some 118, some 119, some 120, some 121, some 122, some 123, some 124, some 125, some 126, some 127, some 128, some 129, some 130, some 131, some 132, some 133, some 134, some 135, some 136, some 137, some 138, some 139, some 140, some 141, some 142, some 143, some 144, some 145, some 146, some 147, some 148, some 149, some 150, some 151, some 152, some 153, some 154, some 155, some 156, some 157, some 158, some 159, some 160, some 161, some 162, some 163, some 164, some 165, some 166, some 167, some 168, some 169, some 170, some 171, some 172, some 173, some 174, some 175, some 176, some 177, some 178, some 179, some 180, some 181, some 182, some 183, some 184, some 185, some 186, some 187, some 188, some 189, some 190, some 191, some 192, some 193, some 194, some 195, some 196, some 197, some 198, some 199, some 200, some 201, some 202, some 203, some 204, some 205, some 206, some 207, some 208, some 209, some 210, some 211, some 212, none, none, none, some 216, some 217, some 218, some 219, some 220, some 221, some 222, some 223, some 224, some 225, some 226, some 227, some 228, some 229, some 230, some 231, some 232, some 233, some 234, some 235, some 236, some 237, some 238, some 239, some 240, some 241, some 242, some 243, some 244, some 245, some 246, some 247, some 248, some 249, some 250, some 251, some 252, some 253, some 254, some 255, some 256, some 257, some 258, some 259, some 260, some 261, some 262, some 263, some 264, some 265, some 266, some 267, some 268, some 269, some 270, some 271, some 272, some 273, some 274, some 275, some 276, some 277, some 278, some 279, some 280, some 281, some 282, some 283, some 284, some 285, some 286, some 287, some 288, some 289, some 290, some 291, some 292, some 293, some 294, some 295, some 296, some 297, some 298, some 299, some 300, some 301, some 302, some 303, some 304, some 305, some 306, some 307, some 308, some 309, none, none, none, some 313, some 314, some 315, some 316, some 317, some 318, some 319, some 320, some 321, some 322, some 323, some 324, some 325, some 326, some 327, some 328, some 329, some 330, some 331, some 332, some 333, some 334, some 335, some 336, some 337, some 338, some 339, some 340, some 341, some 342, some 343, some 344, some 345, some 346, some 347, some 348, some 349, some 350, some 351, some 352, some 353, some 354, some 355, some 356, some 357, some 358, some 359, some 360, some 361, some 362, some 363, some 364, some 365, some 366, some 367, some 368, some 369, some 370, some 371, some 372, some 373, some 374, none, none, none, some 378, some 379, some 380, some 381, some 382, some 383, some 384, some 385, some 386, some 387, some 388, some 389, some 390, some 391, some 392, some 393, some 394, some 395, some 396, some 397]
theorem cm0_ok : Fc.sound cm0 0 = true := by kernel_rfl
def cm1 : List (Option Nat) := [none, none, none, none, some 4, none, none, none, none, none, none, none, none, none, none, none, none, none, none, none, none, some 21, some 22, some 23, some 24, some 25, some 26, none, none, none, none, none, none, none, none, none, none, none, none, none, none, none, none, none, none, none, none, none, none, none, none, none, none, none, some 54, some 55, some 56, some 57, some 58, some 59, some 60, some 61, some 62, some 63, some 64, some 65, some 66, some 67, some 68, some 69, some 70, some 71, some 72, some 73, some 74, some 75, some 76, some 77, some 78, some 79, some 80, some 81, some 82, some 83, some 84, some 85, some 86, some 87, some 88, some 89, some 90, some 91, some 92, some 93, some 94, some 95, some 96, some 97, some 98, some 99, some 100, some 101, some 102, some 103, some 104, some 105, some 106, some 107, some 108, some 109, some 110, some 111, some 112, some 113, some 114, some 115, some 116, some 117, some 118, some 119, some 120, some 121, some 122, some 123, some 124, some 125, some 126, some 127, some 128, some 129, some 130, some 131, some 132, some 133, some 134, some 135, some 136, some 137, some 138, some 139, some 140, some 141, some 142, some 143, some 144, some 145, some 146, some 147, some 148, some 149, some 150, some 151, some 152, some 153, some 154, some 155, some 156, some 157, some 158, some 159, some 160, some 161, some 162, some 163, some 164, some 165, some 166, some 167, some 168, some 169, some 170, some 171, some 172, some 173, some 174, some 175, some 176, some 177, some 178, some 179, some 180, some 181, some 182, some 183, some 184, some 185, some 186, some 187, some 188, some 189, some 190, some 191, some 192, some 193, some 194, some 195, some 196, some 197, some 198, some 199, some 200, some 201, some 202, some 203, some 204, some 205, some 206, some 207, some 208, some 209, some 210, some 211, some 212, some 213, some 214, some 215, some 216, some 217, some 218, some 219, some 220, some 221, some 222, some 223, some 224, some 225, some 226, some 227, some 228, some 229, some 230, some 231, some 232, some 233, some 234, some 235, some 236, some 237, some 238, some 239, some 240, some 241, some 242, some 243, some 244, some 245, some 246, some 247, some 248, some 249, some 250, some 251, some 252, some 253, some 254, some 255, some 256, some 257, some 258, some 259, some 260, some 261, some 262, some 263, some 264, some 265, some 266, some 267, some 268, some 269, some 270, some 271, some 272, some 273, some 274, some 275, some 276, some 277, some 278, some 279, some 280, some 281, some 282, some 283, some 284, some 285, some 286, some 287, some 288, some 289, some 290, some 291, some 292, some 293, some 294, some 295, some 296, some 297, some 298, some 299, some 300, some 301, some 302, some 303, some 304, some 305, some 306, some 307, some 308, some 309, none, none, none, some 313, some 314, some 315, some 316, some 317, some 318, some 319, some 320, some 321, some 322, some 323, some 324, some 325, some 326, some 327, some 328, some 329, some 330, some 331, some 332, some 333, some 334, some 335, some 336, some 337, some 338, some 339, some 340, some 341, some 342, some 343, some 344, some 345, some 346, some 347, some 348, some 349, some 350, some 351, some 352, some 353, some 354, some 355, some 356, some 357, some 358, some 359, some 360, some 361, some 362, some 363, some 364, some 365, some 366, some 367, some 368, some 369, some 370, some 371, some 372, some 373, some 374, none, none, none, some 378, some 379, some 380, some 381, some 382, some 383, some 384, some 385, some 386, some 387, some 388, some 389, some 390, some 391, some 392, some 393, some 394, some 395, some 396, some 397]
theorem cm1_ok : Fc.sound cm1 0 = true := by kernel_rfl
def cm2 : List (Option Nat) := [none, none, none, none, some 4, none, none, none, none, none, none, none, none, none, none, none, none, none, none, none, none, none, none, none, none, some 25, some 26, none, none, none, none, none, none, none, none, none, none, none, none, none, none, none, none, none, none, none, none, none, none, none, none, none, none, none, none, none, none, none, none, none, none, none, none, none, none, none, none, none, none, none, none, none, none, none, none, none, none, none, none, none, none, none, none, none, none, none, none, none, none, none, none, none, none, none, none, none, none, none, none, none, none, none, none, none, none, none, none, none, none, none, none, none, none, none, none, none, none, none, none, none, none, none, none, none, none, none, none, none, none, none, none, none, none, none, none, none, none, none, none, none, none, none, none, none, none, none, none, none, none, none, none, none, none, none, none, none, none, none, none, none, none, none, none, none, none, none, none, none, none, none, none, none, none, none, none, none, none, none, none, none, none, none, none, none, none, none, none, none, none, none, none, none, none, none, none, none, none, none, none, none, none, none, none, none, none, none, none, none, none, none, none, none, none, none, none, some 215, some 216, some 217, some 218, some 219, some 220, some 221, some 222, some 223, some 224, some 225, some 226, some 227, some 228, some 229, some 230, some 231, some 232, some 233, some 234, some 235, some 236, some 237, some 238, some 239, some 240, some 241, some 242, some 243, some 244, some 245, some 246, some 247, some 248, some 249]
theorem cm2_ok : Fc.sound cm2 0 = true := by kernel_rfl
def cm3 : List (Option Nat) := [none, none, none, none, some 4, none, none, none, none, none, none, none, none, none, none, none, none, none, none, none, none, none, none, none, none, none, none, none, none, none, none, none, none, none, none, none, some 36, some 37, some 38, some 39, some 40, none, some 42, none, none, none, none, none, none, none, none, none, none, none, some 54, some 55, some 56, some 57, some 58, some 59, some 60, some 61, some 62, some 63, some 64, some 65, some 66, some 67, some 68, some 69, some 70, some 71, some 72, some 73, some 74, some 75, some 76, some 77, some 78, some 79, some 80, some 81, some 82, some 83, some 84, some 85, some 86, some 87, some 88, some 89, some 90, some 91, some 92, some 93, some 94, some 95, some 96, some 97, some 98, some 99, some 100, some 101, some 102, some 103, some 104, some 105, some 106, some 107, some 108, some 109, some 110, some 111, some 112, some 113, some 114, some 115, some 116, some 117, some 118, some 119, some 120, some 121, some 122, some 123, some 124, some 125, some 126, some 127, some 128, some 129, some 130, some 131, some 132, some 133, some 134, some 135, some 136, some 137, some 138, some 139, some 140, some 141, some 142, some 143, some 144, some 145, some 146, some 147, some 148, some 149, some 150, some 151, some 152, some 153, some 154, some 155, some 156, some 157, some 158, some 159, some 160, some 161, some 162, some 163, some 164, some 165, some 166, some 167, some 168, some 169, some 170, some 171, some 172, some 173, some 174, some 175, some 176, some 177, some 178, some 179, some 180, some 181, some 182, some 183, some 184, some 185, some 186, some 187, some 188, some 189, some 190, some 191, some 192, some 193, some 194, some 195, some 196, some 197, some 198, some 199, some 200, some 201, some 202, some 203, some 204, some 205, some 206, some 207, some 208, some 209, some 210, some 211, some 212, none, none, none, some 216, some 217, some 218, some 219, some 220, some 221, some 222, some 223, some 224, some 225, some 226, some 227, some 228, some 229, some 230, some 231, some 232, some 233, some 234, some 235, some 236, some 237, some 238, some 239, some 240, some 241, some 242, some 243, some 244, some 245, some 246, some 247, some 248, some 249, some 250, some 251, some 252, some 253, some 254, some 255, some 256, some 257, some 258, some 259, some 260, some 261, some 262, some 263, some 264, some 265, some 266, some 267, some 268, some 269, some 270, some 271, some 272, some 273, some 274, some 275, some 276, some 277, some 278, some 279, some 280, some 281, some 282, some 283, some 284, some 285, some 286, some 287, some 288, some 289, some 290, some 291, some 292, some 293, some 294, some 295, some 296, some 297, some 298, some 299, some 300, some 301, some 302, some 303, some 304, some 305, some 306, some 307, some 308, some 309, some 310, some 311, some 312, some 313, some 314, some 315, some 316, some 317, some 318, some 319, some 320, some 321, some 322, some 323, some 324, some 325, some 326, some 327, some 328, some 329, some 330, some 331, some 332, some 333, some 334, some 335, some 336, some 337, some 338, some 339, some 340, some 341, some 342, some 343, some 344, some 345, some 346, some 347, some 348, some 349, some 350, some 351, some 352, some 353, some 354, some 355, some 356, some 357, some 358, some 359, some 360, some 361, some 362, some 363, some 364, some 365, some 366, some 367, some 368, some 369, some 370, some 371, some 372, some 373, some 374, none, none, none, some 378, some 379, some 380, some 381, some 382, some 383, some 384, some 385, some 386, some 387, some 388, some 389, some 390, some 391, some 392, some 393, some 394, some 395, some 396, some 397]
theorem cm3_ok : Fc.sound cm3 0 = true := by kernel_rfl
def cm4 : List (Option Nat) := [none, none, none, none, none, none, none, none, none, none, none, none, none, none, none, none, none, none, none, none, none, none, none, none, none, none, none, none, none, none, none, none, none, none, none, none, some 36, some 37, none, none, none, none, none, none, none, none, none, none, none, none, none, none, none, none, none, none, none, none, none, none, none, none, none, none, none, none, none, none, none, none, none, none, none, none, none, none, none, none, none, none, none, none, none, none, none, none, none, none, none, none, none, none, none, none, none, none, none, none, none, none, none, none, none, none, none, none, none, none, none, none, none, none, none, none, none, none, none, none, none, none, none, none, none, none, none, none, none, none, none, none, none, none, none, none, none, none, none, none, none, none, none, none, none, none, none, none, none, none, none, none, none, none, none, none, none, none, none, none, none, none, none, none, none, none, none, none, none, none, none, none, none, none, none, none, none, none, none, none, none, none, none, none, none, none, none, none, none, none, none, none, none, none, none, none, none, none, none, none, none, none, none, none, none, none, none, none, none, none, none, none, none, none, none, none, none, none, none, none, none, none, none, none, none, none, none, none, none, none, none, none, none, none, none, none, none, none, none, none, none, none, none, none, none, none, none, none, none, none, none, none, none, none, none, none, none, none, none, none, none, none, none, none, none, none, none, none, none, none, none, none, none, none, none, none, none, none, none, none, none, none, none, none, none, none, none, none, some 286, some 287, some 288, some 289, some 290, some 291, some 292, some 293]
theorem cm4_ok : Fc.sound cm4 0 = true := by kernel_rfl
def cm5 : List (Option Nat) := [none, none, none, none, some 4, none, none, none, none, none, none, none, none, none, none, none, none, none, none, none, none, none, none, none, none, none, none, none, none, none, none, none, none, none, none, none, none, none, none, none, some 40, none, some 42, none, none, none, none, none, none, none, none, none, none, none, none, none, none, none, none, none, none, none, none, none, none, none, none, none, none, none, none, none, none, none, none, none, none, none, none, none, none, none, none, none, none, none, none, none, none, none, none, none, none, none, none, none, none, none, none, none, none, none, none, none, none, none, none, none, none, none, none, none, none, none, none, none, none, none, none, none, none, none, none, none, none, none, none, none, none, none, none, none, none, none, none, none, none, none, none, none, none, none, none, none, none, none, none, none, none, none, none, none, none, none, none, none, none, none, none, none, none, none, none, none, none, none, none, none, none, none, none, none, none, none, none, none, none, none, none, none, none, none, none, none, none, none, none, none, none, none, none, none, none, none, none, none, none, none, none, none, none, none, none, none, none, none, none, none, none, none, none, none, none, none, none, none, none, none, none, none, none, none, none, none, none, none, none, none, none, none, none, none, none, none, none, none, none, none, none, none, none, none, none, none, none, none, none, none, none, none, none, none, none, none, none, none, none, none, none, none, none, none, none, none, none, none, none, none, none, none, none, none, none, none, none, none, none, none, none, none, none, none, none, none, none, none, none, none, none, none, none, none, none, none, none, none, none, none, none, none, none, none, none, none, none, none, none, none, none, none, none, none, some 312, some 313, some 314, some 315, some 316, some 317, some 318, some 319, some 320, some 321, some 322, some 323, some 324, some 325, some 326, some 327, some 328]
theorem cm5_ok : Fc.sound cm5 0 = true := by kernel_rfl
def cm6 : List (Option Nat) := [none, none, none, none, some 4, none, none, none, none, none, none, none, none, none, none, none, none, none, none, none, none, none, none, none, none, none, none, none, none, none, none, none, none, none, none, none, none, none, none, none, none, none, none, none, none, none, none, none, none, none, some 50, some 51, some 52, some 53, none, none, none, none, none, none, none, none, none, none, none, none, none, none, none, none, none, none, none, none, none, none, none, none, none, none, none, none, none, none, none, none, none, none, none, none, none, none, none, none, none, none, none, none, none, none, none, none, none, none, none, none, none, none, none, none, none, none, none, none, none, none, none, none, none, none, none, none, none, none, none, none, none, none, none, none, none, none, none, none, none, none, none, none, none, none, none, none, none, none, none, none, none, none, none, none, none, none, none, none, none, none, none, none, none, none, none, none, none, none, none, none, none, none, none, none, none, none, none, none, none, none, none, none, none, none, none, none, none, none, none, none, none, none, none, none, none, none, none, none, none, none, none, none, none, none, none, none, none, none, none, none, none, none, none, none, none, none, none, none, none, none, none, none, none, none, none, none, none, none, none, none, none, none, none, none, none, none, none, none, none, none, none, none, none, none, none, none, none, none, none, none, none, none, none, none, none, none, none, none, none, none, none, none, none, none, none, none, none, none, none, none, none, none, none, none, none, none, none, none, none, none, none, none, none, none, none, none, none, none, none, none, none, none, none, none, none, none, none, none, none, none, none, none, none, none, none, none, none, none, none, none, none, none, none, none, none, none, none, none, none, none, none, none, none, none, none, none, none, none, none, none, none, none, none, none, none, none, none, none, none, none, none, none, none, none, none, none, none, none, none, none, none, none, none, none, none, none, none, none, none, none, none, none, none, none, none, none, none, none, none, none, none, none, none, none, none, none, none, none, none, none, none, some 377, some 378, some 379, some 380, some 381, some 382, some 383, some 384, some 385, some 386, some 387, some 388, some 389, some 390, some 391, some 392, some 393, some 394, some 395, some 396, some 397]
theorem cm6_ok : Fc.sound cm6 0 = true := by kernel_rfl
set_option maxHeartbeats 8000000 in
set_option maxRecDepth 100000 in
theorem laws_FnTripsOfChips.calls (k : Nat) (A0 : Option Addr) (c0 : Nat) (l0 : List Int) (A1 : Option Addr) (c1 : Nat) (l1 : List Int) (r : Bool) (w : World) (hr0 : Kd.C (Kd.int .u8) w A0 l0.length l0) (hc0 : l0.length ≤ c0) (hr1 : Kd.C (Kd.int .u8) w A1 l1.length l1) (hc1 : l1.length ≤ c1) (h : laws_FnTripsOfChips.f k l0 l1 = some r) :
  Calls Try.prog 15 #[.slice A0 l0.length c0, .slice A1 l1.length c1] w fun e w' => e = .returned (.bool r) ∧ Below w.heap.size w w' := by
 have HR0 := Aside0.mk hr0
 have HC0 := Aside0.mk hc0
 clear hr0 hc0
 have HR1 := Aside0.mk hr1
 have HC1 := Aside0.mk hc1
 clear hr1 hc1
 have HB := Aside0.mk (Below.refl w.heap.size w)
 have H : ((laws_big.f l0 l1).bind fun t196 => (if t196 = true then (some true) else ((spec_DrawTripsOf.f k l0).bind fun bt197 => ((impl_TripsOf.f bt197.1 bt197.2.1 bt197.2.2.1 bt197.2.2.2).bind fun bt201 => ((spec_TripsOf.f bt197.1 bt197.2.1 bt197.2.2.1 bt197.2.2.2).bind fun bt205 => ((impl_LongestTrip.f bt197.1 bt197.2.1 bt197.2.2.1 bt197.2.2.2).bind fun bt209 => ((spec_LongestTrip.f bt197.1 bt197.2.1 bt197.2.2.1 bt197.2.2.2).bind fun bt211 => ((impl_LevelVisits.f bt197.1 bt197.2.1 bt197.2.2.1 bt197.2.2.2).bind fun bt213 => ((spec_LevelVisits.f bt197.1 bt197.2.1 bt197.2.2.1 bt197.2.2.2).bind fun bt217 => (if (bt201.2 != bt205.2) = true then (laws_FnTripsOfChips.j0 k l1 bt197.1 bt197.2.1 bt197.2.2.1 bt197.2.2.2 bt201.1 bt201.2 bt209.1 bt213.1 true) else ((laws_xSame.f k bt201.1 bt205.1).bind fun t221 => (if t221 = true then (if (bt209.2 != bt211.2) = true then (laws_FnTripsOfChips.j0 k l1 bt197.1 bt197.2.1 bt197.2.2.1 bt197.2.2.2 bt201.1 bt201.2 bt209.1 bt213.1 true) else (if bt209.1 = bt211.1 then (if (bt213.2 != bt217.2) = true then (laws_FnTripsOfChips.j0 k l1 bt197.1 bt197.2.1 bt197.2.2.1 bt197.2.2.2 bt201.1 bt201.2 bt209.1 bt213.1 true) else ((laws_xSame.f k bt213.1 bt217.1).bind fun t222 => (if t222 = true then (if (bt209.2 != bt201.2) = true then (laws_FnTripsOfChips.j0 k l1 bt197.1 bt197.2.1 bt197.2.2.1 bt197.2.2.2 bt201.1 bt201.2 bt209.1 bt213.1 true) else (laws_FnTripsOfChips.j0 k l1 bt197.1 bt197.2.1 bt197.2.2.1 bt197.2.2.2 bt201.1 bt201.2 bt209.1 bt213.1 (bt213.2 != bt201.2))) else (laws_FnTripsOfChips.j0 k l1 bt197.1 bt197.2.1 bt197.2.2.1 bt197.2.2.2 bt201.1 bt201.2 bt209.1 bt213.1 true)))) else (laws_FnTripsOfChips.j0 k l1 bt197.1 bt197.2.1 bt197.2.2.1 bt197.2.2.2 bt201.1 bt201.2 bt209.1 bt213.1 true))) else (laws_FnTripsOfChips.j0 k l1 bt197.1 bt197.2.1 bt197.2.2.1 bt197.2.2.2 bt201.1 bt201.2 bt209.1 bt213.1 true))))))))))))) = some r := h
 clear h
 replace H := Option.bind_eq_some_iff.mp H
 obtain ⟨t196, A30, H⟩ := H
 replace H : (if t196 = true then (some true) else ((spec_DrawTripsOf.f k l0).bind fun bt197 => ((impl_TripsOf.f bt197.1 bt197.2.1 bt197.2.2.1 bt197.2.2.2).bind fun bt201 => ((spec_TripsOf.f bt197.1 bt197.2.1 bt197.2.2.1 bt197.2.2.2).bind fun bt205 => ((impl_LongestTrip.f bt197.1 bt197.2.1 bt197.2.2.1 bt197.2.2.2).bind fun bt209 => ((spec_LongestTrip.f bt197.1 bt197.2.1 bt197.2.2.1 bt197.2.2.2).bind fun bt211 => ((impl_LevelVisits.f bt197.1 bt197.2.1 bt197.2.2.1 bt197.2.2.2).bind fun bt213 => ((spec_LevelVisits.f bt197.1 bt197.2.1 bt197.2.2.1 bt197.2.2.2).bind fun bt217 => (if (bt201.2 != bt205.2) = true then (laws_FnTripsOfChips.j0 k l1 bt197.1 bt197.2.1 bt197.2.2.1 bt197.2.2.2 bt201.1 bt201.2 bt209.1 bt213.1 true) else ((laws_xSame.f k bt201.1 bt205.1).bind fun t221 => (if t221 = true then (if (bt209.2 != bt211.2) = true then (laws_FnTripsOfChips.j0 k l1 bt197.1 bt197.2.1 bt197.2.2.1 bt197.2.2.2 bt201.1 bt201.2 bt209.1 bt213.1 true) else (if bt209.1 = bt211.1 then (if (bt213.2 != bt217.2) = true then (laws_FnTripsOfChips.j0 k l1 bt197.1 bt197.2.1 bt197.2.2.1 bt197.2.2.2 bt201.1 bt201.2 bt209.1 bt213.1 true) else ((laws_xSame.f k bt213.1 bt217.1).bind fun t222 => (if t222 = true then (if (bt209.2 != bt201.2) = true then (laws_FnTripsOfChips.j0 k l1 bt197.1 bt197.2.1 bt197.2.2.1 bt197.2.2.2 bt201.1 bt201.2 bt209.1 bt213.1 true) else (laws_FnTripsOfChips.j0 k l1 bt197.1 bt197.2.1 bt197.2.2.1 bt197.2.2.2 bt201.1 bt201.2 bt209.1 bt213.1 (bt213.2 != bt201.2))) else (laws_FnTripsOfChips.j0 k l1 bt197.1 bt197.2.1 bt197.2.2.1 bt197.2.2.2 bt201.1 bt201.2 bt209.1 bt213.1 true)))) else (laws_FnTripsOfChips.j0 k l1 bt197.1 bt197.2.1 bt197.2.2.1 bt197.2.2.2 bt201.1 bt201.2 bt209.1 bt213.1 true))) else (laws_FnTripsOfChips.j0 k l1 bt197.1 bt197.2.1 bt197.2.2.1 bt197.2.2.2 bt201.1 bt201.2 bt209.1 bt213.1 true)))))))))))) = some r := H
 have A3 := Aside0.mk A30
 clear A30
 by_cases c4 : t196 = true
 ·subst c4
  have H1 : (some true) = some r := by rw [if_pos rfl] at H; exact H
  clear H
  have H := H1
  clear H1
  obtain rfl := Option.some.inj H
  go_enter Try.func15, Try.ntmps15
  go_wp2_with (first | ((with_reducible refine gate_callee (f := 45) rfl ?_); refine goesL_ (some 56) rfl rfl Try.func45 (by kernel_rfl) rfl #[.slice A0 l0.length c0, .slice A1 l1.length c1] rfl (by (try simp only [List.map_toArray, List.map_cons, List.map_nil]); first | done | rfl | (simp only [List.length_drop, List.length_take]; rfl)) ?_; (with_reducible refine (laws_big.calls _ _ l0 _ _ l1 true _ ?side1 ?side2 ?side3 ?side4 A3.out).mono ?_); (case side1 => repeat (first | exact HR0.out | (with_reducible refine Kd.C_alloc ?_ _) | (with_reducible refine Kd.C_drewN ?_ _) | (with_reducible refine Kd.C_drew ?_))); (case side2 => exact HC0.out); (case side3 => repeat (first | exact HR1.out | (with_reducible refine Kd.C_alloc ?_ _) | (with_reducible refine Kd.C_drewN ?_ _) | (with_reducible refine Kd.C_drew ?_))); (case side4 => exact HC1.out); rintro e w' ⟨rfl, ⟨nd, rfl⟩⟩; refine ⟨_, rfl, ?_⟩))
  go_ret
  exact ⟨by first | rfl | (simp [errW_none, errW_some] <;> rfl) | (simp [*, errW_none, errW_some] <;> rfl), by repeat (first | (with_reducible first | exact HB.out | apply bA_ | apply bN_ | apply bD_) | exact HB.out)⟩
 ·replace c4 := Bool.eq_false_iff.mpr c4
  subst c4
  have H1 : ((spec_DrawTripsOf.f k l0).bind fun bt197 => ((impl_TripsOf.f bt197.1 bt197.2.1 bt197.2.2.1 bt197.2.2.2).bind fun bt201 => ((spec_TripsOf.f bt197.1 bt197.2.1 bt197.2.2.1 bt197.2.2.2).bind fun bt205 => ((impl_LongestTrip.f bt197.1 bt197.2.1 bt197.2.2.1 bt197.2.2.2).bind fun bt209 => ((spec_LongestTrip.f bt197.1 bt197.2.1 bt197.2.2.1 bt197.2.2.2).bind fun bt211 => ((impl_LevelVisits.f bt197.1 bt197.2.1 bt197.2.2.1 bt197.2.2.2).bind fun bt213 => ((spec_LevelVisits.f bt197.1 bt197.2.1 bt197.2.2.1 bt197.2.2.2).bind fun bt217 => (if (bt201.2 != bt205.2) = true then (laws_FnTripsOfChips.j0 k l1 bt197.1 bt197.2.1 bt197.2.2.1 bt197.2.2.2 bt201.1 bt201.2 bt209.1 bt213.1 true) else ((laws_xSame.f k bt201.1 bt205.1).bind fun t221 => (if t221 = true then (if (bt209.2 != bt211.2) = true then (laws_FnTripsOfChips.j0 k l1 bt197.1 bt197.2.1 bt197.2.2.1 bt197.2.2.2 bt201.1 bt201.2 bt209.1 bt213.1 true) else (if bt209.1 = bt211.1 then (if (bt213.2 != bt217.2) = true then (laws_FnTripsOfChips.j0 k l1 bt197.1 bt197.2.1 bt197.2.2.1 bt197.2.2.2 bt201.1 bt201.2 bt209.1 bt213.1 true) else ((laws_xSame.f k bt213.1 bt217.1).bind fun t222 => (if t222 = true then (if (bt209.2 != bt201.2) = true then (laws_FnTripsOfChips.j0 k l1 bt197.1 bt197.2.1 bt197.2.2.1 bt197.2.2.2 bt201.1 bt201.2 bt209.1 bt213.1 true) else (laws_FnTripsOfChips.j0 k l1 bt197.1 bt197.2.1 bt197.2.2.1 bt197.2.2.2 bt201.1 bt201.2 bt209.1 bt213.1 (bt213.2 != bt201.2))) else (laws_FnTripsOfChips.j0 k l1 bt197.1 bt197.2.1 bt197.2.2.1 bt197.2.2.2 bt201.1 bt201.2 bt209.1 bt213.1 true)))) else (laws_FnTripsOfChips.j0 k l1 bt197.1 bt197.2.1 bt197.2.2.1 bt197.2.2.2 bt201.1 bt201.2 bt209.1 bt213.1 true))) else (laws_FnTripsOfChips.j0 k l1 bt197.1 bt197.2.1 bt197.2.2.1 bt197.2.2.2 bt201.1 bt201.2 bt209.1 bt213.1 true))))))))))) = some r := by rw [if_neg (show ¬ (false = true) by decide)] at H; exact H
  clear H
  have H := H1
  clear H1
  replace H := Option.bind_eq_some_iff.mp H
  obtain ⟨⟨t197, t198, t199, t200⟩, A50, H⟩ := H
  replace H : ((impl_TripsOf.f t197 t198 t199 t200).bind fun bt201 => ((spec_TripsOf.f t197 t198 t199 t200).bind fun bt205 => ((impl_LongestTrip.f t197 t198 t199 t200).bind fun bt209 => ((spec_LongestTrip.f t197 t198 t199 t200).bind fun bt211 => ((impl_LevelVisits.f t197 t198 t199 t200).bind fun bt213 => ((spec_LevelVisits.f t197 t198 t199 t200).bind fun bt217 => (if (bt201.2 != bt205.2) = true then (laws_FnTripsOfChips.j0 k l1 t197 t198 t199 t200 bt201.1 bt201.2 bt209.1 bt213.1 true) else ((laws_xSame.f k bt201.1 bt205.1).bind fun t221 => (if t221 = true then (if (bt209.2 != bt211.2) = true then (laws_FnTripsOfChips.j0 k l1 t197 t198 t199 t200 bt201.1 bt201.2 bt209.1 bt213.1 true) else (if bt209.1 = bt211.1 then (if (bt213.2 != bt217.2) = true then (laws_FnTripsOfChips.j0 k l1 t197 t198 t199 t200 bt201.1 bt201.2 bt209.1 bt213.1 true) else ((laws_xSame.f k bt213.1 bt217.1).bind fun t222 => (if t222 = true then (if (bt209.2 != bt201.2) = true then (laws_FnTripsOfChips.j0 k l1 t197 t198 t199 t200 bt201.1 bt201.2 bt209.1 bt213.1 true) else (laws_FnTripsOfChips.j0 k l1 t197 t198 t199 t200 bt201.1 bt201.2 bt209.1 bt213.1 (bt213.2 != bt201.2))) else (laws_FnTripsOfChips.j0 k l1 t197 t198 t199 t200 bt201.1 bt201.2 bt209.1 bt213.1 true)))) else (laws_FnTripsOfChips.j0 k l1 t197 t198 t199 t200 bt201.1 bt201.2 bt209.1 bt213.1 true))) else (laws_FnTripsOfChips.j0 k l1 t197 t198 t199 t200 bt201.1 bt201.2 bt209.1 bt213.1 true)))))))))) = some r := H
  have A5 := Aside0.mk A50
  clear A50
  replace H := Option.bind_eq_some_iff.mp H
  obtain ⟨⟨t201, t202⟩, A60, H⟩ := H
  replace H : ((spec_TripsOf.f t197 t198 t199 t200).bind fun bt205 => ((impl_LongestTrip.f t197 t198 t199 t200).bind fun bt209 => ((spec_LongestTrip.f t197 t198 t199 t200).bind fun bt211 => ((impl_LevelVisits.f t197 t198 t199 t200).bind fun bt213 => ((spec_LevelVisits.f t197 t198 t199 t200).bind fun bt217 => (if (t202 != bt205.2) = true then (laws_FnTripsOfChips.j0 k l1 t197 t198 t199 t200 t201 t202 bt209.1 bt213.1 true) else ((laws_xSame.f k t201 bt205.1).bind fun t221 => (if t221 = true then (if (bt209.2 != bt211.2) = true then (laws_FnTripsOfChips.j0 k l1 t197 t198 t199 t200 t201 t202 bt209.1 bt213.1 true) else (if bt209.1 = bt211.1 then (if (bt213.2 != bt217.2) = true then (laws_FnTripsOfChips.j0 k l1 t197 t198 t199 t200 t201 t202 bt209.1 bt213.1 true) else ((laws_xSame.f k bt213.1 bt217.1).bind fun t222 => (if t222 = true then (if (bt209.2 != t202) = true then (laws_FnTripsOfChips.j0 k l1 t197 t198 t199 t200 t201 t202 bt209.1 bt213.1 true) else (laws_FnTripsOfChips.j0 k l1 t197 t198 t199 t200 t201 t202 bt209.1 bt213.1 (bt213.2 != t202))) else (laws_FnTripsOfChips.j0 k l1 t197 t198 t199 t200 t201 t202 bt209.1 bt213.1 true)))) else (laws_FnTripsOfChips.j0 k l1 t197 t198 t199 t200 t201 t202 bt209.1 bt213.1 true))) else (laws_FnTripsOfChips.j0 k l1 t197 t198 t199 t200 t201 t202 bt209.1 bt213.1 true))))))))) = some r := H
  have A6 := Aside0.mk A60
  clear A60
  replace H := Option.bind_eq_some_iff.mp H
  obtain ⟨⟨t205, t206⟩, A70, H⟩ := H
  replace H : ((impl_LongestTrip.f t197 t198 t199 t200).bind fun bt209 => ((spec_LongestTrip.f t197 t198 t199 t200).bind fun bt211 => ((impl_LevelVisits.f t197 t198 t199 t200).bind fun bt213 => ((spec_LevelVisits.f t197 t198 t199 t200).bind fun bt217 => (if (t202 != t206) = true then (laws_FnTripsOfChips.j0 k l1 t197 t198 t199 t200 t201 t202 bt209.1 bt213.1 true) else ((laws_xSame.f k t201 t205).bind fun t221 => (if t221 = true then (if (bt209.2 != bt211.2) = true then (laws_FnTripsOfChips.j0 k l1 t197 t198 t199 t200 t201 t202 bt209.1 bt213.1 true) else (if bt209.1 = bt211.1 then (if (bt213.2 != bt217.2) = true then (laws_FnTripsOfChips.j0 k l1 t197 t198 t199 t200 t201 t202 bt209.1 bt213.1 true) else ((laws_xSame.f k bt213.1 bt217.1).bind fun t222 => (if t222 = true then (if (bt209.2 != t202) = true then (laws_FnTripsOfChips.j0 k l1 t197 t198 t199 t200 t201 t202 bt209.1 bt213.1 true) else (laws_FnTripsOfChips.j0 k l1 t197 t198 t199 t200 t201 t202 bt209.1 bt213.1 (bt213.2 != t202))) else (laws_FnTripsOfChips.j0 k l1 t197 t198 t199 t200 t201 t202 bt209.1 bt213.1 true)))) else (laws_FnTripsOfChips.j0 k l1 t197 t198 t199 t200 t201 t202 bt209.1 bt213.1 true))) else (laws_FnTripsOfChips.j0 k l1 t197 t198 t199 t200 t201 t202 bt209.1 bt213.1 true)))))))) = some r := H
  have A7 := Aside0.mk A70
  clear A70
  replace H := Option.bind_eq_some_iff.mp H
  obtain ⟨⟨t209, t210⟩, A80, H⟩ := H
  replace H : ((spec_LongestTrip.f t197 t198 t199 t200).bind fun bt211 => ((impl_LevelVisits.f t197 t198 t199 t200).bind fun bt213 => ((spec_LevelVisits.f t197 t198 t199 t200).bind fun bt217 => (if (t202 != t206) = true then (laws_FnTripsOfChips.j0 k l1 t197 t198 t199 t200 t201 t202 t209 bt213.1 true) else ((laws_xSame.f k t201 t205).bind fun t221 => (if t221 = true then (if (t210 != bt211.2) = true then (laws_FnTripsOfChips.j0 k l1 t197 t198 t199 t200 t201 t202 t209 bt213.1 true) else (if t209 = bt211.1 then (if (bt213.2 != bt217.2) = true then (laws_FnTripsOfChips.j0 k l1 t197 t198 t199 t200 t201 t202 t209 bt213.1 true) else ((laws_xSame.f k bt213.1 bt217.1).bind fun t222 => (if t222 = true then (if (t210 != t202) = true then (laws_FnTripsOfChips.j0 k l1 t197 t198 t199 t200 t201 t202 t209 bt213.1 true) else (laws_FnTripsOfChips.j0 k l1 t197 t198 t199 t200 t201 t202 t209 bt213.1 (bt213.2 != t202))) else (laws_FnTripsOfChips.j0 k l1 t197 t198 t199 t200 t201 t202 t209 bt213.1 true)))) else (laws_FnTripsOfChips.j0 k l1 t197 t198 t199 t200 t201 t202 t209 bt213.1 true))) else (laws_FnTripsOfChips.j0 k l1 t197 t198 t199 t200 t201 t202 t209 bt213.1 true))))))) = some r := H
  have A8 := Aside0.mk A80
  clear A80
  replace H := Option.bind_eq_some_iff.mp H
  obtain ⟨⟨t211, t212⟩, A90, H⟩ := H
  replace H : ((impl_LevelVisits.f t197 t198 t199 t200).bind fun bt213 => ((spec_LevelVisits.f t197 t198 t199 t200).bind fun bt217 => (if (t202 != t206) = true then (laws_FnTripsOfChips.j0 k l1 t197 t198 t199 t200 t201 t202 t209 bt213.1 true) else ((laws_xSame.f k t201 t205).bind fun t221 => (if t221 = true then (if (t210 != t212) = true then (laws_FnTripsOfChips.j0 k l1 t197 t198 t199 t200 t201 t202 t209 bt213.1 true) else (if t209 = t211 then (if (bt213.2 != bt217.2) = true then (laws_FnTripsOfChips.j0 k l1 t197 t198 t199 t200 t201 t202 t209 bt213.1 true) else ((laws_xSame.f k bt213.1 bt217.1).bind fun t222 => (if t222 = true then (if (t210 != t202) = true then (laws_FnTripsOfChips.j0 k l1 t197 t198 t199 t200 t201 t202 t209 bt213.1 true) else (laws_FnTripsOfChips.j0 k l1 t197 t198 t199 t200 t201 t202 t209 bt213.1 (bt213.2 != t202))) else (laws_FnTripsOfChips.j0 k l1 t197 t198 t199 t200 t201 t202 t209 bt213.1 true)))) else (laws_FnTripsOfChips.j0 k l1 t197 t198 t199 t200 t201 t202 t209 bt213.1 true))) else (laws_FnTripsOfChips.j0 k l1 t197 t198 t199 t200 t201 t202 t209 bt213.1 true)))))) = some r := H
  have A9 := Aside0.mk A90
  clear A90
  replace H := Option.bind_eq_some_iff.mp H
  obtain ⟨⟨t213, t214⟩, A100, H⟩ := H
  replace H : ((spec_LevelVisits.f t197 t198 t199 t200).bind fun bt217 => (if (t202 != t206) = true then (laws_FnTripsOfChips.j0 k l1 t197 t198 t199 t200 t201 t202 t209 t213 true) else ((laws_xSame.f k t201 t205).bind fun t221 => (if t221 = true then (if (t210 != t212) = true then (laws_FnTripsOfChips.j0 k l1 t197 t198 t199 t200 t201 t202 t209 t213 true) else (if t209 = t211 then (if (t214 != bt217.2) = true then (laws_FnTripsOfChips.j0 k l1 t197 t198 t199 t200 t201 t202 t209 t213 true) else ((laws_xSame.f k t213 bt217.1).bind fun t222 => (if t222 = true then (if (t210 != t202) = true then (laws_FnTripsOfChips.j0 k l1 t197 t198 t199 t200 t201 t202 t209 t213 true) else (laws_FnTripsOfChips.j0 k l1 t197 t198 t199 t200 t201 t202 t209 t213 (t214 != t202))) else (laws_FnTripsOfChips.j0 k l1 t197 t198 t199 t200 t201 t202 t209 t213 true)))) else (laws_FnTripsOfChips.j0 k l1 t197 t198 t199 t200 t201 t202 t209 t213 true))) else (laws_FnTripsOfChips.j0 k l1 t197 t198 t199 t200 t201 t202 t209 t213 true))))) = some r := H
  have A10 := Aside0.mk A100
  clear A100
  replace H := Option.bind_eq_some_iff.mp H
  obtain ⟨⟨t217, t218⟩, A110, H⟩ := H
  replace H : (if (t202 != t206) = true then (laws_FnTripsOfChips.j0 k l1 t197 t198 t199 t200 t201 t202 t209 t213 true) else ((laws_xSame.f k t201 t205).bind fun t221 => (if t221 = true then (if (t210 != t212) = true then (laws_FnTripsOfChips.j0 k l1 t197 t198 t199 t200 t201 t202 t209 t213 true) else (if t209 = t211 then (if (t214 != t218) = true then (laws_FnTripsOfChips.j0 k l1 t197 t198 t199 t200 t201 t202 t209 t213 true) else ((laws_xSame.f k t213 t217).bind fun t222 => (if t222 = true then (if (t210 != t202) = true then (laws_FnTripsOfChips.j0 k l1 t197 t198 t199 t200 t201 t202 t209 t213 true) else (laws_FnTripsOfChips.j0 k l1 t197 t198 t199 t200 t201 t202 t209 t213 (t214 != t202))) else (laws_FnTripsOfChips.j0 k l1 t197 t198 t199 t200 t201 t202 t209 t213 true)))) else (laws_FnTripsOfChips.j0 k l1 t197 t198 t199 t200 t201 t202 t209 t213 true))) else (laws_FnTripsOfChips.j0 k l1 t197 t198 t199 t200 t201 t202 t209 t213 true)))) = some r := H
  have A11 := Aside0.mk A110
  clear A110
  have HC12 := Aside0.mk H
  clear H
  go_enter Try.func15, Try.ntmps15
  go_upto_region 10 with (first | ((with_reducible refine gate_callee (f := 45) rfl ?_); refine goesL_ (some 56) rfl rfl Try.func45 (by kernel_rfl) rfl #[.slice A0 l0.length c0, .slice A1 l1.length c1] rfl (by (try simp only [List.map_toArray, List.map_cons, List.map_nil]); first | done | rfl | (simp only [List.length_drop, List.length_take]; rfl)) ?_; (with_reducible refine (laws_big.calls _ _ l0 _ _ l1 false _ ?side1 ?side2 ?side3 ?side4 A3.out).mono ?_); (case side1 => repeat (first | exact HR0.out | (with_reducible refine Kd.C_alloc ?_ _) | (with_reducible refine Kd.C_drewN ?_ _) | (with_reducible refine Kd.C_drew ?_))); (case side2 => exact HC0.out); (case side3 => repeat (first | exact HR1.out | (with_reducible refine Kd.C_alloc ?_ _) | (with_reducible refine Kd.C_drewN ?_ _) | (with_reducible refine Kd.C_drew ?_))); (case side4 => exact HC1.out); rintro e w' ⟨rfl, ⟨nd, rfl⟩⟩; refine ⟨_, rfl, ?_⟩) | ((with_reducible refine gate_callee (f := 46) rfl ?_); refine goesL_ (some 59) rfl rfl Try.func46 (by kernel_rfl) rfl #[.slice A0 l0.length c0] rfl (by (try simp only [List.map_toArray, List.map_cons, List.map_nil]); first | done | rfl | (simp only [List.length_drop, List.length_take]; rfl)) ?_; (with_reducible refine (spec_DrawTripsOf.calls k _ _ l0 t197 t198 t199 t200 _ ?side1 ?side2 A5.out).mono ?_); (case side1 => repeat (first | exact HR0.out | (with_reducible refine Kd.C_alloc ?_ _) | (with_reducible refine Kd.C_drewN ?_ _) | (with_reducible refine Kd.C_drew ?_))); (case side2 => exact HC0.out); rintro e w13 ⟨rfl, hb⟩; refine ⟨_, rfl, ?_⟩; have n0_ := Aside0.mk (bP_ (by repeat (first | (with_reducible first | exact HB.out | apply bA_ | apply bN_ | apply bD_) | exact HB.out)) hb); clear HB; have HB := n0_; clear n0_; (try clear hb); (try clear hb2); (try clear hk); (try clear hi)) | ((with_reducible refine gate_callee (f := 38) rfl ?_); refine goesL_ (some 69) rfl rfl Try.func38 (by kernel_rfl) rfl #[.int .i64 t197, .int .i64 t198, .int .i64 t199, .int .i64 t200] rfl (by (try simp only [List.map_toArray, List.map_cons, List.map_nil]); first | done | rfl | (simp only [List.length_drop, List.length_take]; rfl)) ?_; (with_reducible refine (impl_TripsOf.calls t197 t198 t199 t200 t201 t202 _ A6.out).mono ?_); rintro e w14 ⟨v203, rfl, ho0, hb⟩; refine ⟨_, rfl, ?_⟩; have n0_ := Aside0.mk (Kd.R_lower ho0 (bZ_ (by repeat (first | (with_reducible first | exact HB.out | apply bA_ | apply bN_ | apply bD_) | exact HB.out)))); have n1_ := Aside0.mk (bP_ (by repeat (first | (with_reducible first | exact HB.out | apply bA_ | apply bN_ | apply bD_) | exact HB.out)) hb); clear HB; have HO204 := n0_; have HB := n1_; clear n0_ n1_; (try clear hb); (try clear hb2); (try clear hk); (try clear hi); (try clear ho0)) | ((with_reducible refine gate_callee (f := 37) rfl ?_); refine goesL_ (some 77) rfl rfl Try.func37 (by kernel_rfl) rfl #[.int .i64 t197, .int .i64 t198, .int .i64 t199, .int .i64 t200] rfl (by (try simp only [List.map_toArray, List.map_cons, List.map_nil]); first | done | rfl | (simp only [List.length_drop, List.length_take]; rfl)) ?_; (with_reducible refine (spec_TripsOf.calls t197 t198 t199 t200 t205 t206 _ A7.out).mono ?_); rintro e w15 ⟨v207, rfl, ho0, hb⟩; refine ⟨_, rfl, ?_⟩; have n0_ := Aside0.mk (Kd.R_elder' (by (with_reducible repeat (first | apply Kd.R_alloc | apply Kd.R_drewN | apply Kd.R_drew)); exact HO204.out) (Kd.R_base ho0) hb); have n1_ := Aside0.mk (Kd.R_lower (Kd.R_new' ho0 (Kd.R_lt (by (with_reducible repeat (first | apply Kd.R_alloc | apply Kd.R_drewN | apply Kd.R_drew)); exact HO204.out))) (bZ_ (by repeat (first | (with_reducible first | exact HB.out | apply bA_ | apply bN_ | apply bD_) | exact HB.out)))); have n2_ := Aside0.mk (bP_ (by repeat (first | (with_reducible first | exact HB.out | apply bA_ | apply bN_ | apply bD_) | exact HB.out)) hb); clear HO204; clear HB; have HO204 := n0_; have HO208 := n1_; have HB := n2_; clear n0_ n1_ n2_; (try clear hb); (try clear hb2); (try clear hk); (try clear hi); (try clear ho0)) | ((with_reducible refine gate_callee (f := 29) rfl ?_); refine goesL_ (some 85) rfl rfl Try.func29 (by kernel_rfl) rfl #[.int .i64 t197, .int .i64 t198, .int .i64 t199, .int .i64 t200] rfl (by (try simp only [List.map_toArray, List.map_cons, List.map_nil]); first | done | rfl | (simp only [List.length_drop, List.length_take]; rfl)) ?_; (with_reducible refine (impl_LongestTrip.calls t197 t198 t199 t200 t209 t210 _ A8.out).mono ?_); rintro e w16 ⟨rfl, hb⟩; refine ⟨_, rfl, ?_⟩; have n0_ := Aside0.mk (Kd.R_below (by (with_reducible repeat (first | apply Kd.R_alloc | apply Kd.R_drewN | apply Kd.R_drew)); exact HO204.out) hb); have n1_ := Aside0.mk (Kd.R_below (by (with_reducible repeat (first | apply Kd.R_alloc | apply Kd.R_drewN | apply Kd.R_drew)); exact HO208.out) hb); have n2_ := Aside0.mk (bP_ (by repeat (first | (with_reducible first | exact HB.out | apply bA_ | apply bN_ | apply bD_) | exact HB.out)) hb); clear HO204; clear HO208; clear HB; have HO204 := n0_; have HO208 := n1_; have HB := n2_; clear n0_ n1_ n2_; (try clear hb); (try clear hb2); (try clear hk); (try clear hi)) | ((with_reducible refine gate_callee (f := 28) rfl ?_); refine goesL_ (some 93) rfl rfl Try.func28 (by kernel_rfl) rfl #[.int .i64 t197, .int .i64 t198, .int .i64 t199, .int .i64 t200] rfl (by (try simp only [List.map_toArray, List.map_cons, List.map_nil]); first | done | rfl | (simp only [List.length_drop, List.length_take]; rfl)) ?_; (with_reducible refine (spec_LongestTrip.calls t197 t198 t199 t200 t211 t212 _ A9.out).mono ?_); rintro e w17 ⟨rfl, hb⟩; refine ⟨_, rfl, ?_⟩; have n0_ := Aside0.mk (Kd.R_below (by (with_reducible repeat (first | apply Kd.R_alloc | apply Kd.R_drewN | apply Kd.R_drew)); exact HO204.out) hb); have n1_ := Aside0.mk (Kd.R_below (by (with_reducible repeat (first | apply Kd.R_alloc | apply Kd.R_drewN | apply Kd.R_drew)); exact HO208.out) hb); have n2_ := Aside0.mk (bP_ (by repeat (first | (with_reducible first | exact HB.out | apply bA_ | apply bN_ | apply bD_) | exact HB.out)) hb); clear HO204; clear HO208; clear HB; have HO204 := n0_; have HO208 := n1_; have HB := n2_; clear n0_ n1_ n2_; (try clear hb); (try clear hb2); (try clear hk); (try clear hi)) | ((with_reducible refine gate_callee (f := 36) rfl ?_); refine goesL_ (some 101) rfl rfl Try.func36 (by kernel_rfl) rfl #[.int .i64 t197, .int .i64 t198, .int .i64 t199, .int .i64 t200] rfl (by (try simp only [List.map_toArray, List.map_cons, List.map_nil]); first | done | rfl | (simp only [List.length_drop, List.length_take]; rfl)) ?_; (with_reducible refine (impl_LevelVisits.calls t197 t198 t199 t200 t213 t214 _ A10.out).mono ?_); rintro e w18 ⟨v215, rfl, ho0, hb⟩; refine ⟨_, rfl, ?_⟩; have n0_ := Aside0.mk (Kd.R_elder' (by (with_reducible repeat (first | apply Kd.R_alloc | apply Kd.R_drewN | apply Kd.R_drew)); exact HO204.out) (Kd.R_base ho0) hb); have n1_ := Aside0.mk (Kd.R_elder' (by (with_reducible repeat (first | apply Kd.R_alloc | apply Kd.R_drewN | apply Kd.R_drew)); exact HO208.out) (Kd.R_base ho0) hb); have n2_ := Aside0.mk (Kd.R_lower (Kd.R_new' (Kd.R_new' ho0 (Kd.R_lt (by (with_reducible repeat (first | apply Kd.R_alloc | apply Kd.R_drewN | apply Kd.R_drew)); exact HO204.out))) (Kd.R_lt (by (with_reducible repeat (first | apply Kd.R_alloc | apply Kd.R_drewN | apply Kd.R_drew)); exact HO208.out))) (bZ_ (by repeat (first | (with_reducible first | exact HB.out | apply bA_ | apply bN_ | apply bD_) | exact HB.out)))); have n3_ := Aside0.mk (bP_ (by repeat (first | (with_reducible first | exact HB.out | apply bA_ | apply bN_ | apply bD_) | exact HB.out)) hb); clear HO204; clear HO208; clear HB; have HO204 := n0_; have HO208 := n1_; have HO216 := n2_; have HB := n3_; clear n0_ n1_ n2_ n3_; (try clear hb); (try clear hb2); (try clear hk); (try clear hi); (try clear ho0)) | ((with_reducible refine gate_callee (f := 35) rfl ?_); refine goesL_ (some 109) rfl rfl Try.func35 (by kernel_rfl) rfl #[.int .i64 t197, .int .i64 t198, .int .i64 t199, .int .i64 t200] rfl (by (try simp only [List.map_toArray, List.map_cons, List.map_nil]); first | done | rfl | (simp only [List.length_drop, List.length_take]; rfl)) ?_; (with_reducible refine (spec_LevelVisits.calls t197 t198 t199 t200 t217 t218 _ A11.out).mono ?_); rintro e w19 ⟨v219, rfl, ho0, hb⟩; refine ⟨_, rfl, ?_⟩; have n0_ := Aside0.mk (Kd.R_elder' (by (with_reducible repeat (first | apply Kd.R_alloc | apply Kd.R_drewN | apply Kd.R_drew)); exact HO204.out) (Kd.R_base ho0) hb); have n1_ := Aside0.mk (Kd.R_elder' (by (with_reducible repeat (first | apply Kd.R_alloc | apply Kd.R_drewN | apply Kd.R_drew)); exact HO208.out) (Kd.R_base ho0) hb); have n2_ := Aside0.mk (Kd.R_elder' (by (with_reducible repeat (first | apply Kd.R_alloc | apply Kd.R_drewN | apply Kd.R_drew)); exact HO216.out) (Kd.R_base ho0) hb); have n3_ := Aside0.mk (Kd.R_lower (Kd.R_new' (Kd.R_new' (Kd.R_new' ho0 (Kd.R_lt (by (with_reducible repeat (first | apply Kd.R_alloc | apply Kd.R_drewN | apply Kd.R_drew)); exact HO204.out))) (Kd.R_lt (by (with_reducible repeat (first | apply Kd.R_alloc | apply Kd.R_drewN | apply Kd.R_drew)); exact HO208.out))) (Kd.R_lt (by (with_reducible repeat (first | apply Kd.R_alloc | apply Kd.R_drewN | apply Kd.R_drew)); exact HO216.out))) (bZ_ (by repeat (first | (with_reducible first | exact HB.out | apply bA_ | apply bN_ | apply bD_) | exact HB.out)))); have n4_ := Aside0.mk (bP_ (by repeat (first | (with_reducible first | exact HB.out | apply bA_ | apply bN_ | apply bD_) | exact HB.out)) hb); clear HO204; clear HO208; clear HO216; clear HB; have HO204 := n0_; have HO208 := n1_; have HO216 := n2_; have HO220 := n3_; have HB := n4_; clear n0_ n1_ n2_ n3_ n4_; (try clear hb); (try clear hb2); (try clear hk); (try clear hi); (try clear ho0)))
  (try simp only [Act.put, List.setIfInBounds_toArray, List.set_cons_zero, List.set_cons_succ])
  apply Fc.cut cm0 cm0_ok (fun u_ wc => ∃ (kq : Nat) (x151_11 : Bool), (u_ 151) = .bool x151_11 ∧ Aside0 (laws_FnTripsOfChips.j0 kq l1 t197 t198 t199 t200 t201 t202 t209 t213 x151_11 = some r) ∧ Aside0 (kq ≤ k) ∧ Aside0 (Kd.R (Kd.int .i64) 3 wc w.heap.size (fun k_ => some k_ ≠ (v215 : Value).ownBlock) v203 t201) ∧ Aside0 (Kd.R (Kd.int .i64) 3 wc w.heap.size (fun k_ => some k_ ≠ (v203 : Value).ownBlock) v215 t213) ∧ Aside0 (Below w.heap.size w wc))
  case first =>
   intro _ _ _ _
   have H := HC12.out
   clear HC12
   by_cases c20 : (t202 != t206) = true
   ·rw [if_pos c20] at H
    have c20b0 : (t202 != t206) = true := c20
    (try (have c20b1 : decide (t202 = t206) = false := by simpa using c20))
    (try (have c20b2 : (t202 == t206) = false := by simpa using c20))
    (try (have c20b3 : ¬ (t202 = t206) := by simpa using c20))
    clear c20
    (first | rw [c20b0] | (simp only [i64_w, i32_w]; rw [c20b0]) | skip)
    have H' := Aside0.mk H
    clear H
    go_wp2
    refine Fc.meet (by assumption) ?same ?rel
    case same => kernel_rfl
    case rel => exact ⟨_, (true), (by first | rfl | (simp; done) | (simp [*]; done)), H', ⟨by first | omega | exact Nat.le_refl _⟩, ⟨by (with_reducible repeat (first | apply Kd.R_alloc | apply Kd.R_drewN | apply Kd.R_drew)); exact Kd.R_mono HO204.out (fun _ hk => hk.1.2)⟩, ⟨by (with_reducible repeat (first | apply Kd.R_alloc | apply Kd.R_drewN | apply Kd.R_drew)); exact Kd.R_mono HO216.out (fun _ hk => hk.1.1.2)⟩, ⟨by repeat (first | (with_reducible first | exact HB.out | apply bA_ | apply bN_ | apply bD_) | exact HB.out)⟩⟩
   ·rw [if_neg c20] at H
    have c20b0 : (t202 != t206) = false := by simpa using c20
    (try (have c20b1 : decide (t202 = t206) = true := by simpa using c20))
    (try (have c20b2 : (t202 == t206) = true := by simpa using c20))
    clear c20
    (first | rw [c20b0] | (simp only [i64_w, i32_w]; rw [c20b0]) | skip)
    replace H := Option.bind_eq_some_iff.mp H
    obtain ⟨t221, A210, H⟩ := H
    replace H : (if t221 = true then (if (t210 != t212) = true then (laws_FnTripsOfChips.j0 k l1 t197 t198 t199 t200 t201 t202 t209 t213 true) else (if t209 = t211 then (if (t214 != t218) = true then (laws_FnTripsOfChips.j0 k l1 t197 t198 t199 t200 t201 t202 t209 t213 true) else ((laws_xSame.f k t213 t217).bind fun t222 => (if t222 = true then (if (t210 != t202) = true then (laws_FnTripsOfChips.j0 k l1 t197 t198 t199 t200 t201 t202 t209 t213 true) else (laws_FnTripsOfChips.j0 k l1 t197 t198 t199 t200 t201 t202 t209 t213 (t214 != t202))) else (laws_FnTripsOfChips.j0 k l1 t197 t198 t199 t200 t201 t202 t209 t213 true)))) else (laws_FnTripsOfChips.j0 k l1 t197 t198 t199 t200 t201 t202 t209 t213 true))) else (laws_FnTripsOfChips.j0 k l1 t197 t198 t199 t200 t201 t202 t209 t213 true)) = some r := H
    have A21 := Aside0.mk A210
    clear A210
    by_cases c22 : t221 = true
    ·subst c22
     have H1 : (if (t210 != t212) = true then (laws_FnTripsOfChips.j0 k l1 t197 t198 t199 t200 t201 t202 t209 t213 true) else (if t209 = t211 then (if (t214 != t218) = true then (laws_FnTripsOfChips.j0 k l1 t197 t198 t199 t200 t201 t202 t209 t213 true) else ((laws_xSame.f k t213 t217).bind fun t222 => (if t222 = true then (if (t210 != t202) = true then (laws_FnTripsOfChips.j0 k l1 t197 t198 t199 t200 t201 t202 t209 t213 true) else (laws_FnTripsOfChips.j0 k l1 t197 t198 t199 t200 t201 t202 t209 t213 (t214 != t202))) else (laws_FnTripsOfChips.j0 k l1 t197 t198 t199 t200 t201 t202 t209 t213 true)))) else (laws_FnTripsOfChips.j0 k l1 t197 t198 t199 t200 t201 t202 t209 t213 true))) = some r := by rw [if_pos rfl] at H; exact H
     clear H
     have H := H1
     clear H1
     by_cases c23 : (t210 != t212) = true
     ·rw [if_pos c23] at H
      have c23b0 : (t210 != t212) = true := c23
      (try (have c23b1 : decide (t210 = t212) = false := by simpa using c23))
      (try (have c23b2 : (t210 == t212) = false := by simpa using c23))
      (try (have c23b3 : ¬ (t210 = t212) := by simpa using c23))
      clear c23
      have H' := Aside0.mk H
      clear H
      obtain ⟨Ao24, co24, eo24⟩ := Kd.R_slice HO204.out
      subst eo24
      obtain ⟨Ao25, co25, eo25⟩ := Kd.R_slice HO208.out
      subst eo25
      go_wp2_with (first | (go_at_call 47; (with_reducible refine (laws_xSame.calls k _ _ t201 _ _ t205 true _ ?side1 ?side2 ?side3 ?side4 A21.out).mono ?_); (case side1 => repeat (first | exact (Kd.R_reads' HO204.out).2.2 | (with_reducible refine Kd.C_alloc ?_ _) | (with_reducible refine Kd.C_drewN ?_ _) | (with_reducible refine Kd.C_drew ?_))); (case side2 => exact (Kd.R_reads' HO204.out).2.1); (case side3 => repeat (first | exact (Kd.R_reads' HO208.out).2.2 | (with_reducible refine Kd.C_alloc ?_ _) | (with_reducible refine Kd.C_drewN ?_ _) | (with_reducible refine Kd.C_drew ?_))); (case side4 => exact (Kd.R_reads' HO208.out).2.1); rintro e w' ⟨rfl, ⟨nd, rfl⟩⟩))
      refine Fc.meet (by assumption) ?same ?rel
      case same => kernel_rfl
      case rel => exact ⟨_, (true), (by first | rfl | (simp; done) | (simp [*]; done)), H', ⟨by first | omega | exact Nat.le_refl _⟩, ⟨by (with_reducible repeat (first | apply Kd.R_alloc | apply Kd.R_drewN | apply Kd.R_drew)); exact Kd.R_mono HO204.out (fun _ hk => hk.1.2)⟩, ⟨by (with_reducible repeat (first | apply Kd.R_alloc | apply Kd.R_drewN | apply Kd.R_drew)); exact Kd.R_mono HO216.out (fun _ hk => hk.1.1.2)⟩, ⟨by repeat (first | (with_reducible first | exact HB.out | apply bA_ | apply bN_ | apply bD_) | exact HB.out)⟩⟩
     ·rw [if_neg c23] at H
      have c23b0 : (t210 != t212) = false := by simpa using c23
      (try (have c23b1 : decide (t210 = t212) = true := by simpa using c23))
      (try (have c23b2 : (t210 == t212) = true := by simpa using c23))
      clear c23
      by_cases c26 : t209 = t211
      ·rw [if_pos c26] at H
       have c26b0 : (t209 == t211) = true := beq_iff_eq.mpr c26
       have c26b1 : (t209 != t211) = false := bne_eq_false_iff_eq.mpr c26
       clear c26
       by_cases c27 : (t214 != t218) = true
       ·rw [if_pos c27] at H
        have c27b0 : (t214 != t218) = true := c27
        (try (have c27b1 : decide (t214 = t218) = false := by simpa using c27))
        (try (have c27b2 : (t214 == t218) = false := by simpa using c27))
        (try (have c27b3 : ¬ (t214 = t218) := by simpa using c27))
        clear c27
        have H' := Aside0.mk H
        clear H
        obtain ⟨Ao28, co28, eo28⟩ := Kd.R_slice HO204.out
        subst eo28
        obtain ⟨Ao29, co29, eo29⟩ := Kd.R_slice HO208.out
        subst eo29
        go_wp2_with (first | (go_at_call 47; (with_reducible refine (laws_xSame.calls k _ _ t201 _ _ t205 true _ ?side1 ?side2 ?side3 ?side4 A21.out).mono ?_); (case side1 => repeat (first | exact (Kd.R_reads' HO204.out).2.2 | (with_reducible refine Kd.C_alloc ?_ _) | (with_reducible refine Kd.C_drewN ?_ _) | (with_reducible refine Kd.C_drew ?_))); (case side2 => exact (Kd.R_reads' HO204.out).2.1); (case side3 => repeat (first | exact (Kd.R_reads' HO208.out).2.2 | (with_reducible refine Kd.C_alloc ?_ _) | (with_reducible refine Kd.C_drewN ?_ _) | (with_reducible refine Kd.C_drew ?_))); (case side4 => exact (Kd.R_reads' HO208.out).2.1); rintro e w' ⟨rfl, ⟨nd, rfl⟩⟩))
        refine Fc.meet (by assumption) ?same ?rel
        case same => kernel_rfl
        case rel => exact ⟨_, (true), (by first | rfl | (simp; done) | (simp [*]; done)), H', ⟨by first | omega | exact Nat.le_refl _⟩, ⟨by (with_reducible repeat (first | apply Kd.R_alloc | apply Kd.R_drewN | apply Kd.R_drew)); exact Kd.R_mono HO204.out (fun _ hk => hk.1.2)⟩, ⟨by (with_reducible repeat (first | apply Kd.R_alloc | apply Kd.R_drewN | apply Kd.R_drew)); exact Kd.R_mono HO216.out (fun _ hk => hk.1.1.2)⟩, ⟨by repeat (first | (with_reducible first | exact HB.out | apply bA_ | apply bN_ | apply bD_) | exact HB.out)⟩⟩
       ·rw [if_neg c27] at H
        have c27b0 : (t214 != t218) = false := by simpa using c27
        (try (have c27b1 : decide (t214 = t218) = true := by simpa using c27))
        (try (have c27b2 : (t214 == t218) = true := by simpa using c27))
        clear c27
        replace H := Option.bind_eq_some_iff.mp H
        obtain ⟨t222, A300, H⟩ := H
        replace H : (if t222 = true then (if (t210 != t202) = true then (laws_FnTripsOfChips.j0 k l1 t197 t198 t199 t200 t201 t202 t209 t213 true) else (laws_FnTripsOfChips.j0 k l1 t197 t198 t199 t200 t201 t202 t209 t213 (t214 != t202))) else (laws_FnTripsOfChips.j0 k l1 t197 t198 t199 t200 t201 t202 t209 t213 true)) = some r := H
        have A30 := Aside0.mk A300
        clear A300
        by_cases c31 : t222 = true
        ·subst c31
         have H1 : (if (t210 != t202) = true then (laws_FnTripsOfChips.j0 k l1 t197 t198 t199 t200 t201 t202 t209 t213 true) else (laws_FnTripsOfChips.j0 k l1 t197 t198 t199 t200 t201 t202 t209 t213 (t214 != t202))) = some r := by rw [if_pos rfl] at H; exact H
         clear H
         have H := H1
         clear H1
         by_cases c32 : (t210 != t202) = true
         ·rw [if_pos c32] at H
          have c32b0 : (t210 != t202) = true := c32
          (try (have c32b1 : decide (t210 = t202) = false := by simpa using c32))
          (try (have c32b2 : (t210 == t202) = false := by simpa using c32))
          (try (have c32b3 : ¬ (t210 = t202) := by simpa using c32))
          clear c32
          have H' := Aside0.mk H
          clear H
          obtain ⟨Ao33, co33, eo33⟩ := Kd.R_slice HO204.out
          subst eo33
          obtain ⟨Ao34, co34, eo34⟩ := Kd.R_slice HO208.out
          subst eo34
          go_wp2_with (first | (go_at_call 47; (with_reducible refine (laws_xSame.calls k _ _ t201 _ _ t205 true _ ?side1 ?side2 ?side3 ?side4 A21.out).mono ?_); (case side1 => repeat (first | exact (Kd.R_reads' HO204.out).2.2 | (with_reducible refine Kd.C_alloc ?_ _) | (with_reducible refine Kd.C_drewN ?_ _) | (with_reducible refine Kd.C_drew ?_))); (case side2 => exact (Kd.R_reads' HO204.out).2.1); (case side3 => repeat (first | exact (Kd.R_reads' HO208.out).2.2 | (with_reducible refine Kd.C_alloc ?_ _) | (with_reducible refine Kd.C_drewN ?_ _) | (with_reducible refine Kd.C_drew ?_))); (case side4 => exact (Kd.R_reads' HO208.out).2.1); rintro e w' ⟨rfl, ⟨nd, rfl⟩⟩; obtain ⟨Ao35, co35, eo35⟩ := Kd.R_slice HO216.out; subst eo35; obtain ⟨Ao36, co36, eo36⟩ := Kd.R_slice HO220.out; subst eo36) | (go_at_call 47; (with_reducible refine (laws_xSame.calls k _ _ t213 _ _ t217 true _ ?side1 ?side2 ?side3 ?side4 A30.out).mono ?_); (case side1 => repeat (first | exact (Kd.R_reads' HO216.out).2.2 | (with_reducible refine Kd.C_alloc ?_ _) | (with_reducible refine Kd.C_drewN ?_ _) | (with_reducible refine Kd.C_drew ?_))); (case side2 => exact (Kd.R_reads' HO216.out).2.1); (case side3 => repeat (first | exact (Kd.R_reads' HO220.out).2.2 | (with_reducible refine Kd.C_alloc ?_ _) | (with_reducible refine Kd.C_drewN ?_ _) | (with_reducible refine Kd.C_drew ?_))); (case side4 => exact (Kd.R_reads' HO220.out).2.1); rintro e w' ⟨rfl, ⟨nd, rfl⟩⟩))
          refine Fc.meet (by assumption) ?same ?rel
          case same => kernel_rfl
          case rel => exact ⟨_, (true), (by first | rfl | (simp; done) | (simp [*]; done)), H', ⟨by first | omega | exact Nat.le_refl _⟩, ⟨by (with_reducible repeat (first | apply Kd.R_alloc | apply Kd.R_drewN | apply Kd.R_drew)); exact Kd.R_mono HO204.out (fun _ hk => hk.1.2)⟩, ⟨by (with_reducible repeat (first | apply Kd.R_alloc | apply Kd.R_drewN | apply Kd.R_drew)); exact Kd.R_mono HO216.out (fun _ hk => hk.1.1.2)⟩, ⟨by repeat (first | (with_reducible first | exact HB.out | apply bA_ | apply bN_ | apply bD_) | exact HB.out)⟩⟩
         ·rw [if_neg c32] at H
          have c32b0 : (t210 != t202) = false := by simpa using c32
          (try (have c32b1 : decide (t210 = t202) = true := by simpa using c32))
          (try (have c32b2 : (t210 == t202) = true := by simpa using c32))
          clear c32
          have H' := Aside0.mk H
          clear H
          obtain ⟨Ao37, co37, eo37⟩ := Kd.R_slice HO204.out
          subst eo37
          obtain ⟨Ao38, co38, eo38⟩ := Kd.R_slice HO208.out
          subst eo38
          go_wp2_with (first | (go_at_call 47; (with_reducible refine (laws_xSame.calls k _ _ t201 _ _ t205 true _ ?side1 ?side2 ?side3 ?side4 A21.out).mono ?_); (case side1 => repeat (first | exact (Kd.R_reads' HO204.out).2.2 | (with_reducible refine Kd.C_alloc ?_ _) | (with_reducible refine Kd.C_drewN ?_ _) | (with_reducible refine Kd.C_drew ?_))); (case side2 => exact (Kd.R_reads' HO204.out).2.1); (case side3 => repeat (first | exact (Kd.R_reads' HO208.out).2.2 | (with_reducible refine Kd.C_alloc ?_ _) | (with_reducible refine Kd.C_drewN ?_ _) | (with_reducible refine Kd.C_drew ?_))); (case side4 => exact (Kd.R_reads' HO208.out).2.1); rintro e w' ⟨rfl, ⟨nd, rfl⟩⟩; obtain ⟨Ao39, co39, eo39⟩ := Kd.R_slice HO216.out; subst eo39; obtain ⟨Ao40, co40, eo40⟩ := Kd.R_slice HO220.out; subst eo40) | (go_at_call 47; (with_reducible refine (laws_xSame.calls k _ _ t213 _ _ t217 true _ ?side1 ?side2 ?side3 ?side4 A30.out).mono ?_); (case side1 => repeat (first | exact (Kd.R_reads' HO216.out).2.2 | (with_reducible refine Kd.C_alloc ?_ _) | (with_reducible refine Kd.C_drewN ?_ _) | (with_reducible refine Kd.C_drew ?_))); (case side2 => exact (Kd.R_reads' HO216.out).2.1); (case side3 => repeat (first | exact (Kd.R_reads' HO220.out).2.2 | (with_reducible refine Kd.C_alloc ?_ _) | (with_reducible refine Kd.C_drewN ?_ _) | (with_reducible refine Kd.C_drew ?_))); (case side4 => exact (Kd.R_reads' HO220.out).2.1); rintro e w' ⟨rfl, ⟨nd, rfl⟩⟩))
          refine Fc.meet (by assumption) ?same ?rel
          case same => kernel_rfl
          case rel => exact ⟨_, ((t214 != t202)), (by first | rfl | (simp; done) | (simp [*]; done)), H', ⟨by first | omega | exact Nat.le_refl _⟩, ⟨by (with_reducible repeat (first | apply Kd.R_alloc | apply Kd.R_drewN | apply Kd.R_drew)); exact Kd.R_mono HO204.out (fun _ hk => hk.1.2)⟩, ⟨by (with_reducible repeat (first | apply Kd.R_alloc | apply Kd.R_drewN | apply Kd.R_drew)); exact Kd.R_mono HO216.out (fun _ hk => hk.1.1.2)⟩, ⟨by repeat (first | (with_reducible first | exact HB.out | apply bA_ | apply bN_ | apply bD_) | exact HB.out)⟩⟩
        ·replace c31 := Bool.eq_false_iff.mpr c31
         subst c31
         have H1 : (laws_FnTripsOfChips.j0 k l1 t197 t198 t199 t200 t201 t202 t209 t213 true) = some r := by rw [if_neg (show ¬ (false = true) by decide)] at H; exact H
         clear H
         have H := H1
         clear H1
         have H' := Aside0.mk H
         clear H
         obtain ⟨Ao41, co41, eo41⟩ := Kd.R_slice HO204.out
         subst eo41
         obtain ⟨Ao42, co42, eo42⟩ := Kd.R_slice HO208.out
         subst eo42
         go_wp2_with (first | (go_at_call 47; (with_reducible refine (laws_xSame.calls k _ _ t201 _ _ t205 true _ ?side1 ?side2 ?side3 ?side4 A21.out).mono ?_); (case side1 => repeat (first | exact (Kd.R_reads' HO204.out).2.2 | (with_reducible refine Kd.C_alloc ?_ _) | (with_reducible refine Kd.C_drewN ?_ _) | (with_reducible refine Kd.C_drew ?_))); (case side2 => exact (Kd.R_reads' HO204.out).2.1); (case side3 => repeat (first | exact (Kd.R_reads' HO208.out).2.2 | (with_reducible refine Kd.C_alloc ?_ _) | (with_reducible refine Kd.C_drewN ?_ _) | (with_reducible refine Kd.C_drew ?_))); (case side4 => exact (Kd.R_reads' HO208.out).2.1); rintro e w' ⟨rfl, ⟨nd, rfl⟩⟩; obtain ⟨Ao43, co43, eo43⟩ := Kd.R_slice HO216.out; subst eo43; obtain ⟨Ao44, co44, eo44⟩ := Kd.R_slice HO220.out; subst eo44) | (go_at_call 47; (with_reducible refine (laws_xSame.calls k _ _ t213 _ _ t217 false _ ?side1 ?side2 ?side3 ?side4 A30.out).mono ?_); (case side1 => repeat (first | exact (Kd.R_reads' HO216.out).2.2 | (with_reducible refine Kd.C_alloc ?_ _) | (with_reducible refine Kd.C_drewN ?_ _) | (with_reducible refine Kd.C_drew ?_))); (case side2 => exact (Kd.R_reads' HO216.out).2.1); (case side3 => repeat (first | exact (Kd.R_reads' HO220.out).2.2 | (with_reducible refine Kd.C_alloc ?_ _) | (with_reducible refine Kd.C_drewN ?_ _) | (with_reducible refine Kd.C_drew ?_))); (case side4 => exact (Kd.R_reads' HO220.out).2.1); rintro e w' ⟨rfl, ⟨nd, rfl⟩⟩))
         refine Fc.meet (by assumption) ?same ?rel
         case same => kernel_rfl
         case rel => exact ⟨_, (true), (by first | rfl | (simp; done) | (simp [*]; done)), H', ⟨by first | omega | exact Nat.le_refl _⟩, ⟨by (with_reducible repeat (first | apply Kd.R_alloc | apply Kd.R_drewN | apply Kd.R_drew)); exact Kd.R_mono HO204.out (fun _ hk => hk.1.2)⟩, ⟨by (with_reducible repeat (first | apply Kd.R_alloc | apply Kd.R_drewN | apply Kd.R_drew)); exact Kd.R_mono HO216.out (fun _ hk => hk.1.1.2)⟩, ⟨by repeat (first | (with_reducible first | exact HB.out | apply bA_ | apply bN_ | apply bD_) | exact HB.out)⟩⟩
      ·rw [if_neg c26] at H
       have c26b0 : (t209 == t211) = false := beq_eq_false_iff_ne.mpr c26
       have c26b1 : (t209 != t211) = true := bne_iff_ne.mpr c26
       have H' := Aside0.mk H
       clear H
       obtain ⟨Ao45, co45, eo45⟩ := Kd.R_slice HO204.out
       subst eo45
       obtain ⟨Ao46, co46, eo46⟩ := Kd.R_slice HO208.out
       subst eo46
       go_wp2_with (first | (go_at_call 47; (with_reducible refine (laws_xSame.calls k _ _ t201 _ _ t205 true _ ?side1 ?side2 ?side3 ?side4 A21.out).mono ?_); (case side1 => repeat (first | exact (Kd.R_reads' HO204.out).2.2 | (with_reducible refine Kd.C_alloc ?_ _) | (with_reducible refine Kd.C_drewN ?_ _) | (with_reducible refine Kd.C_drew ?_))); (case side2 => exact (Kd.R_reads' HO204.out).2.1); (case side3 => repeat (first | exact (Kd.R_reads' HO208.out).2.2 | (with_reducible refine Kd.C_alloc ?_ _) | (with_reducible refine Kd.C_drewN ?_ _) | (with_reducible refine Kd.C_drew ?_))); (case side4 => exact (Kd.R_reads' HO208.out).2.1); rintro e w' ⟨rfl, ⟨nd, rfl⟩⟩))
       refine Fc.meet (by assumption) ?same ?rel
       case same => kernel_rfl
       case rel => exact ⟨_, (true), (by first | rfl | (simp; done) | (simp [*]; done)), H', ⟨by first | omega | exact Nat.le_refl _⟩, ⟨by (with_reducible repeat (first | apply Kd.R_alloc | apply Kd.R_drewN | apply Kd.R_drew)); exact Kd.R_mono HO204.out (fun _ hk => hk.1.2)⟩, ⟨by (with_reducible repeat (first | apply Kd.R_alloc | apply Kd.R_drewN | apply Kd.R_drew)); exact Kd.R_mono HO216.out (fun _ hk => hk.1.1.2)⟩, ⟨by repeat (first | (with_reducible first | exact HB.out | apply bA_ | apply bN_ | apply bD_) | exact HB.out)⟩⟩
    ·replace c22 := Bool.eq_false_iff.mpr c22
     subst c22
     have H1 : (laws_FnTripsOfChips.j0 k l1 t197 t198 t199 t200 t201 t202 t209 t213 true) = some r := by rw [if_neg (show ¬ (false = true) by decide)] at H; exact H
     clear H
     have H := H1
     clear H1
     have H' := Aside0.mk H
     clear H
     obtain ⟨Ao47, co47, eo47⟩ := Kd.R_slice HO204.out
     subst eo47
     obtain ⟨Ao48, co48, eo48⟩ := Kd.R_slice HO208.out
     subst eo48
     go_wp2_with (first | (go_at_call 47; (with_reducible refine (laws_xSame.calls k _ _ t201 _ _ t205 false _ ?side1 ?side2 ?side3 ?side4 A21.out).mono ?_); (case side1 => repeat (first | exact (Kd.R_reads' HO204.out).2.2 | (with_reducible refine Kd.C_alloc ?_ _) | (with_reducible refine Kd.C_drewN ?_ _) | (with_reducible refine Kd.C_drew ?_))); (case side2 => exact (Kd.R_reads' HO204.out).2.1); (case side3 => repeat (first | exact (Kd.R_reads' HO208.out).2.2 | (with_reducible refine Kd.C_alloc ?_ _) | (with_reducible refine Kd.C_drewN ?_ _) | (with_reducible refine Kd.C_drew ?_))); (case side4 => exact (Kd.R_reads' HO208.out).2.1); rintro e w' ⟨rfl, ⟨nd, rfl⟩⟩))
     refine Fc.meet (by assumption) ?same ?rel
     case same => kernel_rfl
     case rel => exact ⟨_, (true), (by first | rfl | (simp; done) | (simp [*]; done)), H', ⟨by first | omega | exact Nat.le_refl _⟩, ⟨by (with_reducible repeat (first | apply Kd.R_alloc | apply Kd.R_drewN | apply Kd.R_drew)); exact Kd.R_mono HO204.out (fun _ hk => hk.1.2)⟩, ⟨by (with_reducible repeat (first | apply Kd.R_alloc | apply Kd.R_drewN | apply Kd.R_drew)); exact Kd.R_mono HO216.out (fun _ hk => hk.1.1.2)⟩, ⟨by repeat (first | (with_reducible first | exact HB.out | apply bA_ | apply bN_ | apply bD_) | exact HB.out)⟩⟩
  case rest =>
   intro u0_ wc hcut
   (try dsimp only at hcut)
   dsimp only [cm0, Fc.blend]
   generalize u0_ 151 = v151 at hcut ⊢
   clear HC12
   try clear c1
   try clear c2
   try clear p2
   try clear c3
   try clear c4
   try clear c15
   try clear c20
   try clear c20b0
   try clear c20b1
   try clear c20b2
   try clear c22
   try clear c23
   try clear c23b0
   try clear c23b1
   try clear c23b2
   try clear c26
   try clear c26b0
   try clear c26b1
   try clear c27
   try clear c27b0
   try clear c27b1
   try clear c27b2
   try clear c28
   try clear c29
   try clear c31
   try clear c32
   try clear c32b0
   try clear c32b1
   try clear c32b2
   try clear c35
   try clear c36
   try clear c37
   try clear c38
   try clear c45
   try clear c46
   obtain ⟨kq, x151_11, rfl, HA, HJ11, HO_9, HO_17, HB⟩ := hcut
   cases kq with
   | zero => exact absurd HA.out (by simp [laws_FnTripsOfChips.j0])
   | succ kj11 =>
    have H := HA.out
    clear HA
    simp only [laws_FnTripsOfChips.j0] at H
    by_cases c49 : x151_11 = true
    ·subst c49
     have H1 : (some false) = some r := by rw [if_pos rfl] at H; exact H
     clear H
     have H := H1
     clear H1
     obtain rfl := Option.some.inj H
     go_wp2
     go_ret
     exact ⟨by first | rfl | (simp [errW_none, errW_some] <;> rfl) | (simp [*, errW_none, errW_some] <;> rfl), by repeat (first | (with_reducible first | exact HB.out | apply bA_ | apply bN_ | apply bD_) | exact HB.out)⟩
    ·replace c49 := Bool.eq_false_iff.mpr c49
     subst c49
     have H1 : (if t202 = true then ((impl_EscapesOf.f kj11 t197 t198 t199 t200).bind fun bt223 => ((impl_EscapeList.f t197 t198 t199 t200).bind fun bt225 => (if bt223.2 = true then (if bt225.2 = true then (if (t201.length : Int) = t200 then ((laws_xMost.f kj11 t201).bind fun t229 => (if t229 = t209 then (if (t213.length : Int) = (wrap64 (t198 + 1)) then (if 0 ≤ t198 then (if t198 < (t213.length : Int) then (laws_FnTripsOfChips.j1 kj11 l1 t198 t200 t201 t213 bt223.1 bt225.1 ((rd t213 t198) != bt223.1)) else (none)) else (none)) else (laws_FnTripsOfChips.j1 kj11 l1 t198 t200 t201 t213 bt223.1 bt225.1 true)) else (laws_FnTripsOfChips.j1 kj11 l1 t198 t200 t201 t213 bt223.1 bt225.1 true))) else (laws_FnTripsOfChips.j1 kj11 l1 t198 t200 t201 t213 bt223.1 bt225.1 true)) else (laws_FnTripsOfChips.j1 kj11 l1 t198 t200 t201 t213 bt223.1 bt225.1 true)) else (laws_FnTripsOfChips.j1 kj11 l1 t198 t200 t201 t213 bt223.1 bt225.1 true)))) else (laws_FnTripsOfChips.j3 kj11 l1)) = some r := by rw [if_neg (show ¬ (false = true) by decide)] at H; exact H
     clear H
     have H := H1
     clear H1
     have HC50 := Aside0.mk H
     clear H
     go_upto_if 152 with (fail)
     apply Fc.cut cm1 cm1_ok (fun u_ wc => ∃ (kq : Nat), Aside0 (laws_FnTripsOfChips.j3 kq l1 = some r) ∧ Aside0 (kq ≤ kj11) ∧ Aside0 (Below w.heap.size w wc))
     case first =>
      intro _ _ _ _
      have H := HC50.out
      clear HC50
      by_cases c51 : t202 = true
      ·subst c51
       have H1 : ((impl_EscapesOf.f kj11 t197 t198 t199 t200).bind fun bt223 => ((impl_EscapeList.f t197 t198 t199 t200).bind fun bt225 => (if bt223.2 = true then (if bt225.2 = true then (if (t201.length : Int) = t200 then ((laws_xMost.f kj11 t201).bind fun t229 => (if t229 = t209 then (if (t213.length : Int) = (wrap64 (t198 + 1)) then (if 0 ≤ t198 then (if t198 < (t213.length : Int) then (laws_FnTripsOfChips.j1 kj11 l1 t198 t200 t201 t213 bt223.1 bt225.1 ((rd t213 t198) != bt223.1)) else (none)) else (none)) else (laws_FnTripsOfChips.j1 kj11 l1 t198 t200 t201 t213 bt223.1 bt225.1 true)) else (laws_FnTripsOfChips.j1 kj11 l1 t198 t200 t201 t213 bt223.1 bt225.1 true))) else (laws_FnTripsOfChips.j1 kj11 l1 t198 t200 t201 t213 bt223.1 bt225.1 true)) else (laws_FnTripsOfChips.j1 kj11 l1 t198 t200 t201 t213 bt223.1 bt225.1 true)) else (laws_FnTripsOfChips.j1 kj11 l1 t198 t200 t201 t213 bt223.1 bt225.1 true)))) = some r := by rw [if_pos rfl] at H; exact H
       clear H
       have H := H1
       clear H1
       replace H := Option.bind_eq_some_iff.mp H
       obtain ⟨⟨t223, t224⟩, A520, H⟩ := H
       replace H : ((impl_EscapeList.f t197 t198 t199 t200).bind fun bt225 => (if t224 = true then (if bt225.2 = true then (if (t201.length : Int) = t200 then ((laws_xMost.f kj11 t201).bind fun t229 => (if t229 = t209 then (if (t213.length : Int) = (wrap64 (t198 + 1)) then (if 0 ≤ t198 then (if t198 < (t213.length : Int) then (laws_FnTripsOfChips.j1 kj11 l1 t198 t200 t201 t213 t223 bt225.1 ((rd t213 t198) != t223)) else (none)) else (none)) else (laws_FnTripsOfChips.j1 kj11 l1 t198 t200 t201 t213 t223 bt225.1 true)) else (laws_FnTripsOfChips.j1 kj11 l1 t198 t200 t201 t213 t223 bt225.1 true))) else (laws_FnTripsOfChips.j1 kj11 l1 t198 t200 t201 t213 t223 bt225.1 true)) else (laws_FnTripsOfChips.j1 kj11 l1 t198 t200 t201 t213 t223 bt225.1 true)) else (laws_FnTripsOfChips.j1 kj11 l1 t198 t200 t201 t213 t223 bt225.1 true))) = some r := H
       have A52 := Aside0.mk A520
       clear A520
       replace H := Option.bind_eq_some_iff.mp H
       obtain ⟨⟨t225, t226⟩, A530, H⟩ := H
       replace H : (if t224 = true then (if t226 = true then (if (t201.length : Int) = t200 then ((laws_xMost.f kj11 t201).bind fun t229 => (if t229 = t209 then (if (t213.length : Int) = (wrap64 (t198 + 1)) then (if 0 ≤ t198 then (if t198 < (t213.length : Int) then (laws_FnTripsOfChips.j1 kj11 l1 t198 t200 t201 t213 t223 t225 ((rd t213 t198) != t223)) else (none)) else (none)) else (laws_FnTripsOfChips.j1 kj11 l1 t198 t200 t201 t213 t223 t225 true)) else (laws_FnTripsOfChips.j1 kj11 l1 t198 t200 t201 t213 t223 t225 true))) else (laws_FnTripsOfChips.j1 kj11 l1 t198 t200 t201 t213 t223 t225 true)) else (laws_FnTripsOfChips.j1 kj11 l1 t198 t200 t201 t213 t223 t225 true)) else (laws_FnTripsOfChips.j1 kj11 l1 t198 t200 t201 t213 t223 t225 true)) = some r := H
       have A53 := Aside0.mk A530
       clear A530
       have HC54 := Aside0.mk H
       clear H
       go_upto_region 15 with (first | ((with_reducible refine gate_callee (f := 25) rfl ?_); refine goesL_ (some 158) rfl rfl Try.func25 (by kernel_rfl) rfl #[.int .i64 t197, .int .i64 t198, .int .i64 t199, .int .i64 t200] rfl (by (try simp only [List.map_toArray, List.map_cons, List.map_nil]); first | done | rfl | (simp only [List.length_drop, List.length_take]; rfl)) ?_; (with_reducible refine (impl_EscapesOf.calls kj11 t197 t198 t199 t200 t223 t224 _ A52.out).mono ?_); rintro e w55 ⟨rfl, hb⟩; refine ⟨_, rfl, ?_⟩; have n0_ := Aside0.mk (Kd.R_below (by (with_reducible repeat (first | apply Kd.R_alloc | apply Kd.R_drewN | apply Kd.R_drew)); exact HO_9.out) hb); have n1_ := Aside0.mk (Kd.R_below (by (with_reducible repeat (first | apply Kd.R_alloc | apply Kd.R_drewN | apply Kd.R_drew)); exact HO_17.out) hb); have n2_ := Aside0.mk (bP_ (by repeat (first | (with_reducible first | exact HB.out | apply bA_ | apply bN_ | apply bD_) | exact HB.out)) hb); clear HO_9; clear HO_17; clear HB; have HO_9 := n0_; have HO_17 := n1_; have HB := n2_; clear n0_ n1_ n2_; (try clear hb); (try clear hb2); (try clear hk); (try clear hi)) | ((with_reducible refine gate_callee (f := 31) rfl ?_); refine goesL_ (some 166) rfl rfl Try.func31 (by kernel_rfl) rfl #[.int .i64 t197, .int .i64 t198, .int .i64 t199, .int .i64 t200] rfl (by (try simp only [List.map_toArray, List.map_cons, List.map_nil]); first | done | rfl | (simp only [List.length_drop, List.length_take]; rfl)) ?_; (with_reducible refine (impl_EscapeList.calls t197 t198 t199 t200 t225 t226 _ A53.out).mono ?_); rintro e w56 ⟨v227, rfl, ho0, hb⟩; refine ⟨_, rfl, ?_⟩; have n0_ := Aside0.mk (Kd.R_elder' (by (with_reducible repeat (first | apply Kd.R_alloc | apply Kd.R_drewN | apply Kd.R_drew)); exact HO_9.out) (Kd.R_base ho0) hb); have n1_ := Aside0.mk (Kd.R_elder' (by (with_reducible repeat (first | apply Kd.R_alloc | apply Kd.R_drewN | apply Kd.R_drew)); exact HO_17.out) (Kd.R_base ho0) hb); have n2_ := Aside0.mk (Kd.R_lower (Kd.R_new' (Kd.R_new' ho0 (Kd.R_lt (by (with_reducible repeat (first | apply Kd.R_alloc | apply Kd.R_drewN | apply Kd.R_drew)); exact HO_9.out))) (Kd.R_lt (by (with_reducible repeat (first | apply Kd.R_alloc | apply Kd.R_drewN | apply Kd.R_drew)); exact HO_17.out))) (bZ_ (by repeat (first | (with_reducible first | exact HB.out | apply bA_ | apply bN_ | apply bD_) | exact HB.out)))); have n3_ := Aside0.mk (bP_ (by repeat (first | (with_reducible first | exact HB.out | apply bA_ | apply bN_ | apply bD_) | exact HB.out)) hb); clear HO_9; clear HO_17; clear HB; have HO_9 := n0_; have HO_17 := n1_; have HO228 := n2_; have HB := n3_; clear n0_ n1_ n2_ n3_; (try clear hb); (try clear hb2); (try clear hk); (try clear hi); (try clear ho0)))
       (try simp only [Act.put, List.setIfInBounds_toArray, List.set_cons_zero, List.set_cons_succ])
       apply Fc.cut cm0 cm0_ok (fun u_ wc => ∃ (kq : Nat) (x201_53 : Bool), (u_ 201) = .bool x201_53 ∧ Aside0 (laws_FnTripsOfChips.j1 kq l1 t198 t200 t201 t213 t223 t225 x201_53 = some r) ∧ Aside0 (kq ≤ kj11) ∧ Aside0 (Kd.R (Kd.int .i64) 3 wc w.heap.size (fun k_ => some k_ ≠ (v215 : Value).ownBlock ∧ some k_ ≠ (v227 : Value).ownBlock) v203 t201) ∧ Aside0 (Kd.R (Kd.int .i64) 3 wc w.heap.size (fun k_ => some k_ ≠ (v203 : Value).ownBlock ∧ some k_ ≠ (v227 : Value).ownBlock) v215 t213) ∧ Aside0 (Kd.R (Kd.int .i64) 3 wc w.heap.size (fun k_ => some k_ ≠ (v203 : Value).ownBlock ∧ some k_ ≠ (v215 : Value).ownBlock) v227 t225) ∧ Aside0 (Below w.heap.size w wc))
       case first =>
        intro _ _ _ _
        have H := HC54.out
        clear HC54
        by_cases c57 : t224 = true
        ·subst c57
         have H1 : (if t226 = true then (if (t201.length : Int) = t200 then ((laws_xMost.f kj11 t201).bind fun t229 => (if t229 = t209 then (if (t213.length : Int) = (wrap64 (t198 + 1)) then (if 0 ≤ t198 then (if t198 < (t213.length : Int) then (laws_FnTripsOfChips.j1 kj11 l1 t198 t200 t201 t213 t223 t225 ((rd t213 t198) != t223)) else (none)) else (none)) else (laws_FnTripsOfChips.j1 kj11 l1 t198 t200 t201 t213 t223 t225 true)) else (laws_FnTripsOfChips.j1 kj11 l1 t198 t200 t201 t213 t223 t225 true))) else (laws_FnTripsOfChips.j1 kj11 l1 t198 t200 t201 t213 t223 t225 true)) else (laws_FnTripsOfChips.j1 kj11 l1 t198 t200 t201 t213 t223 t225 true)) = some r := by rw [if_pos rfl] at H; exact H
         clear H
         have H := H1
         clear H1
         by_cases c58 : t226 = true
         ·subst c58
          have H1 : (if (t201.length : Int) = t200 then ((laws_xMost.f kj11 t201).bind fun t229 => (if t229 = t209 then (if (t213.length : Int) = (wrap64 (t198 + 1)) then (if 0 ≤ t198 then (if t198 < (t213.length : Int) then (laws_FnTripsOfChips.j1 kj11 l1 t198 t200 t201 t213 t223 t225 ((rd t213 t198) != t223)) else (none)) else (none)) else (laws_FnTripsOfChips.j1 kj11 l1 t198 t200 t201 t213 t223 t225 true)) else (laws_FnTripsOfChips.j1 kj11 l1 t198 t200 t201 t213 t223 t225 true))) else (laws_FnTripsOfChips.j1 kj11 l1 t198 t200 t201 t213 t223 t225 true)) = some r := by rw [if_pos rfl] at H; exact H
          clear H
          have H := H1
          clear H1
          by_cases c59 : (t201.length : Int) = t200
          ·rw [if_pos c59] at H
           have c59b0 : ((t201.length : Int) == t200) = true := beq_iff_eq.mpr c59
           have c59b1 : ((t201.length : Int) != t200) = false := bne_eq_false_iff_eq.mpr c59
           clear c59
           (first | rw [c59b0] | (simp only [i64_w, i32_w]; rw [c59b0]) | skip)
           replace H := Option.bind_eq_some_iff.mp H
           obtain ⟨t229, A600, H⟩ := H
           replace H : (if t229 = t209 then (if (t213.length : Int) = (wrap64 (t198 + 1)) then (if 0 ≤ t198 then (if t198 < (t213.length : Int) then (laws_FnTripsOfChips.j1 kj11 l1 t198 t200 t201 t213 t223 t225 ((rd t213 t198) != t223)) else (none)) else (none)) else (laws_FnTripsOfChips.j1 kj11 l1 t198 t200 t201 t213 t223 t225 true)) else (laws_FnTripsOfChips.j1 kj11 l1 t198 t200 t201 t213 t223 t225 true)) = some r := H
           have A60 := Aside0.mk A600
           clear A600
           by_cases c61 : t229 = t209
           ·rw [if_pos c61] at H
            have c61b0 : (t229 == t209) = true := beq_iff_eq.mpr c61
            have c61b1 : (t229 != t209) = false := bne_eq_false_iff_eq.mpr c61
            clear c61
            by_cases c62 : (t213.length : Int) = (wrap64 (t198 + 1))
            ·rw [if_pos c62] at H
             have c62b0 : ((t213.length : Int) == (wrap64 (t198 + 1))) = true := beq_iff_eq.mpr c62
             have c62b1 : ((t213.length : Int) != (wrap64 (t198 + 1))) = false := bne_eq_false_iff_eq.mpr c62
             clear c62
             by_cases c63 : 0 ≤ t198
             ·rw [if_pos c63] at H
              have c63b0 : decide (0 ≤ t198) = true := decide_eq_true c63
              clear c63
              by_cases c64 : t198 < (t213.length : Int)
              ·rw [if_pos c64] at H
               have c64b0 : decide (t198 < (t213.length : Int)) = true := decide_eq_true c64
               clear c64
               have H' := Aside0.mk H
               clear H
               obtain ⟨Ao65, co65, eo65⟩ := Kd.R_slice HO_9.out
               subst eo65
               go_wp2_with (first | (go_at_call 48; (with_reducible refine (laws_xMost.calls kj11 _ _ t201 t229 _ ?side1 ?side2 A60.out).mono ?_); (case side1 => repeat (first | exact (Kd.R_reads' HO_9.out).2.2 | (with_reducible refine Kd.C_alloc ?_ _) | (with_reducible refine Kd.C_drewN ?_ _) | (with_reducible refine Kd.C_drew ?_))); (case side2 => exact (Kd.R_reads' HO_9.out).2.1); rintro e w' ⟨rfl, ⟨nd, rfl⟩⟩; obtain ⟨Ao66, co66, eo66⟩ := Kd.R_slice HO_17.out; subst eo66; have p230 : 0 ≤ (t198 : Int) := of_decide_eq_true (by first | (with_reducible assumption) | assumption); have q230 : t198 < (t213.length : Int) := of_decide_eq_true (by first | (with_reducible assumption) | assumption); obtain ⟨ad230, e230, hx230_0⟩ := Kd.at_int (Kd.R_reads' HO_17.out).2.2 t198 p230 q230; cases e230; replace p230 := eq_true p230; replace q230 := eq_true q230))
               refine Fc.meet (by assumption) ?same ?rel
               case same => kernel_rfl
               case rel => exact ⟨_, (((rd t213 t198) != t223)), (by first | rfl | (simp; done) | (simp [*]; done)), H', ⟨by have := HJ11.out; (try clear c127); first | omega | exact Nat.le_refl _⟩, ⟨by (with_reducible repeat (first | apply Kd.R_alloc | apply Kd.R_drewN | apply Kd.R_drew)); exact HO_9.out⟩, ⟨by (with_reducible repeat (first | apply Kd.R_alloc | apply Kd.R_drewN | apply Kd.R_drew)); exact HO_17.out⟩, ⟨by (with_reducible repeat (first | apply Kd.R_alloc | apply Kd.R_drewN | apply Kd.R_drew)); exact Kd.R_mono HO228.out (fun _ hk => ⟨hk.1.2, hk.2⟩)⟩, ⟨by repeat (first | (with_reducible first | exact HB.out | apply bA_ | apply bN_ | apply bD_) | exact HB.out)⟩⟩
              ·rw [if_neg c64] at H
               exact absurd H (by simp)
             ·rw [if_neg c63] at H
              exact absurd H (by simp)
            ·rw [if_neg c62] at H
             have c62b0 : ((t213.length : Int) == (wrap64 (t198 + 1))) = false := beq_eq_false_iff_ne.mpr c62
             have c62b1 : ((t213.length : Int) != (wrap64 (t198 + 1))) = true := bne_iff_ne.mpr c62
             clear c62
             have H' := Aside0.mk H
             clear H
             obtain ⟨Ao67, co67, eo67⟩ := Kd.R_slice HO_9.out
             subst eo67
             go_wp2_with (first | (go_at_call 48; (with_reducible refine (laws_xMost.calls kj11 _ _ t201 t229 _ ?side1 ?side2 A60.out).mono ?_); (case side1 => repeat (first | exact (Kd.R_reads' HO_9.out).2.2 | (with_reducible refine Kd.C_alloc ?_ _) | (with_reducible refine Kd.C_drewN ?_ _) | (with_reducible refine Kd.C_drew ?_))); (case side2 => exact (Kd.R_reads' HO_9.out).2.1); rintro e w' ⟨rfl, ⟨nd, rfl⟩⟩; obtain ⟨Ao68, co68, eo68⟩ := Kd.R_slice HO_17.out; subst eo68))
             refine Fc.meet (by assumption) ?same ?rel
             case same => kernel_rfl
             case rel => exact ⟨_, (true), (by first | rfl | (simp; done) | (simp [*]; done)), H', ⟨by have := HJ11.out; (try clear c127); first | omega | exact Nat.le_refl _⟩, ⟨by (with_reducible repeat (first | apply Kd.R_alloc | apply Kd.R_drewN | apply Kd.R_drew)); exact HO_9.out⟩, ⟨by (with_reducible repeat (first | apply Kd.R_alloc | apply Kd.R_drewN | apply Kd.R_drew)); exact HO_17.out⟩, ⟨by (with_reducible repeat (first | apply Kd.R_alloc | apply Kd.R_drewN | apply Kd.R_drew)); exact Kd.R_mono HO228.out (fun _ hk => ⟨hk.1.2, hk.2⟩)⟩, ⟨by repeat (first | (with_reducible first | exact HB.out | apply bA_ | apply bN_ | apply bD_) | exact HB.out)⟩⟩
           ·rw [if_neg c61] at H
            have c61b0 : (t229 == t209) = false := beq_eq_false_iff_ne.mpr c61
            have c61b1 : (t229 != t209) = true := bne_iff_ne.mpr c61
            have H' := Aside0.mk H
            clear H
            obtain ⟨Ao69, co69, eo69⟩ := Kd.R_slice HO_9.out
            subst eo69
            go_wp2_with (first | (go_at_call 48; (with_reducible refine (laws_xMost.calls kj11 _ _ t201 t229 _ ?side1 ?side2 A60.out).mono ?_); (case side1 => repeat (first | exact (Kd.R_reads' HO_9.out).2.2 | (with_reducible refine Kd.C_alloc ?_ _) | (with_reducible refine Kd.C_drewN ?_ _) | (with_reducible refine Kd.C_drew ?_))); (case side2 => exact (Kd.R_reads' HO_9.out).2.1); rintro e w' ⟨rfl, ⟨nd, rfl⟩⟩))
            refine Fc.meet (by assumption) ?same ?rel
            case same => kernel_rfl
            case rel => exact ⟨_, (true), (by first | rfl | (simp; done) | (simp [*]; done)), H', ⟨by have := HJ11.out; (try clear c127); first | omega | exact Nat.le_refl _⟩, ⟨by (with_reducible repeat (first | apply Kd.R_alloc | apply Kd.R_drewN | apply Kd.R_drew)); exact HO_9.out⟩, ⟨by (with_reducible repeat (first | apply Kd.R_alloc | apply Kd.R_drewN | apply Kd.R_drew)); exact HO_17.out⟩, ⟨by (with_reducible repeat (first | apply Kd.R_alloc | apply Kd.R_drewN | apply Kd.R_drew)); exact Kd.R_mono HO228.out (fun _ hk => ⟨hk.1.2, hk.2⟩)⟩, ⟨by repeat (first | (with_reducible first | exact HB.out | apply bA_ | apply bN_ | apply bD_) | exact HB.out)⟩⟩
          ·rw [if_neg c59] at H
           have c59b0 : ((t201.length : Int) == t200) = false := beq_eq_false_iff_ne.mpr c59
           have c59b1 : ((t201.length : Int) != t200) = true := bne_iff_ne.mpr c59
           (first | rw [c59b0] | (simp only [i64_w, i32_w]; rw [c59b0]) | skip)
           have H' := Aside0.mk H
           clear H
           obtain ⟨Ao70, co70, eo70⟩ := Kd.R_slice HO_9.out
           subst eo70
           go_wp2
           refine Fc.meet (by assumption) ?same ?rel
           case same => kernel_rfl
           case rel => exact ⟨_, (true), (by first | rfl | (simp; done) | (simp [*]; done)), H', ⟨by have := HJ11.out; (try clear c127); first | omega | exact Nat.le_refl _⟩, ⟨by (with_reducible repeat (first | apply Kd.R_alloc | apply Kd.R_drewN | apply Kd.R_drew)); exact HO_9.out⟩, ⟨by (with_reducible repeat (first | apply Kd.R_alloc | apply Kd.R_drewN | apply Kd.R_drew)); exact HO_17.out⟩, ⟨by (with_reducible repeat (first | apply Kd.R_alloc | apply Kd.R_drewN | apply Kd.R_drew)); exact Kd.R_mono HO228.out (fun _ hk => ⟨hk.1.2, hk.2⟩)⟩, ⟨by repeat (first | (with_reducible first | exact HB.out | apply bA_ | apply bN_ | apply bD_) | exact HB.out)⟩⟩
         ·replace c58 := Bool.eq_false_iff.mpr c58
          subst c58
          have H1 : (laws_FnTripsOfChips.j1 kj11 l1 t198 t200 t201 t213 t223 t225 true) = some r := by rw [if_neg (show ¬ (false = true) by decide)] at H; exact H
          clear H
          have H := H1
          clear H1
          have H' := Aside0.mk H
          clear H
          go_wp2
          refine Fc.meet (by assumption) ?same ?rel
          case same => kernel_rfl
          case rel => exact ⟨_, (true), (by first | rfl | (simp; done) | (simp [*]; done)), H', ⟨by have := HJ11.out; (try clear c127); first | omega | exact Nat.le_refl _⟩, ⟨by (with_reducible repeat (first | apply Kd.R_alloc | apply Kd.R_drewN | apply Kd.R_drew)); exact HO_9.out⟩, ⟨by (with_reducible repeat (first | apply Kd.R_alloc | apply Kd.R_drewN | apply Kd.R_drew)); exact HO_17.out⟩, ⟨by (with_reducible repeat (first | apply Kd.R_alloc | apply Kd.R_drewN | apply Kd.R_drew)); exact Kd.R_mono HO228.out (fun _ hk => ⟨hk.1.2, hk.2⟩)⟩, ⟨by repeat (first | (with_reducible first | exact HB.out | apply bA_ | apply bN_ | apply bD_) | exact HB.out)⟩⟩
        ·replace c57 := Bool.eq_false_iff.mpr c57
         subst c57
         have H1 : (laws_FnTripsOfChips.j1 kj11 l1 t198 t200 t201 t213 t223 t225 true) = some r := by rw [if_neg (show ¬ (false = true) by decide)] at H; exact H
         clear H
         have H := H1
         clear H1
         have H' := Aside0.mk H
         clear H
         go_wp2
         refine Fc.meet (by assumption) ?same ?rel
         case same => kernel_rfl
         case rel => exact ⟨_, (true), (by first | rfl | (simp; done) | (simp [*]; done)), H', ⟨by have := HJ11.out; (try clear c127); first | omega | exact Nat.le_refl _⟩, ⟨by (with_reducible repeat (first | apply Kd.R_alloc | apply Kd.R_drewN | apply Kd.R_drew)); exact HO_9.out⟩, ⟨by (with_reducible repeat (first | apply Kd.R_alloc | apply Kd.R_drewN | apply Kd.R_drew)); exact HO_17.out⟩, ⟨by (with_reducible repeat (first | apply Kd.R_alloc | apply Kd.R_drewN | apply Kd.R_drew)); exact Kd.R_mono HO228.out (fun _ hk => ⟨hk.1.2, hk.2⟩)⟩, ⟨by repeat (first | (with_reducible first | exact HB.out | apply bA_ | apply bN_ | apply bD_) | exact HB.out)⟩⟩
       case rest =>
        intro u2_ wc hcut
        (try dsimp only at hcut)
        dsimp only [cm0, Fc.blend]
        generalize u2_ 201 = v201 at hcut ⊢
        clear HC54
        try clear c1
        try clear c2
        try clear p2
        try clear q2
        try clear hx2
        try clear c3
        try clear c4
        try clear c5
        try clear c6
        try clear p6
        try clear c15
        try clear c20
        try clear c20b0
        try clear c20b1
        try clear c20b2
        try clear c22
        try clear c23
        try clear c23b0
        try clear c23b1
        try clear c23b2
        try clear p23
        try clear q23
        try clear hx23
        try clear c25
        try clear c26
        try clear c26b0
        try clear c26b1
        try clear c27
        try clear c27b0
        try clear c27b1
        try clear c27b2
        try clear c28
        try clear c29
        try clear c31
        try clear c32
        try clear c32b0
        try clear c32b1
        try clear c32b2
        try clear c35
        try clear c36
        try clear c37
        try clear c38
        try clear c45
        try clear c46
        try clear c49
        try clear c51
        try clear c57
        try clear c58
        try clear c59
        try clear c59b0
        try clear c59b1
        try clear c61
        try clear c61b0
        try clear c61b1
        try clear c62
        try clear c62b0
        try clear c62b1
        try clear c63
        try clear c63b0
        try clear c64
        try clear c64b0
        try clear p64
        try clear hx230_0
        try clear p2
        try clear p230
        try clear q230
        obtain ⟨kq, x201_53, rfl, HA, HJ53, HO_9, HO_17, HO_23, HB⟩ := hcut
        cases kq with
        | zero => exact absurd HA.out (by simp [laws_FnTripsOfChips.j1])
        | succ kj53 =>
         have H := HA.out
         clear HA
         simp only [laws_FnTripsOfChips.j1] at H
         by_cases c71 : x201_53 = true
         ·subst c71
          have H1 : (some false) = some r := by rw [if_pos rfl] at H; exact H
          clear H
          have H := H1
          clear H1
          obtain rfl := Option.some.inj H
          go_wp2
          go_ret
          exact ⟨by first | rfl | (simp [errW_none, errW_some] <;> rfl) | (simp [*, errW_none, errW_some] <;> rfl), by repeat (first | (with_reducible first | exact HB.out | apply bA_ | apply bN_ | apply bD_) | exact HB.out)⟩
         ·replace c71 := Bool.eq_false_iff.mpr c71
          subst c71
          have H1 : ((laws_xSum.f kj53 t213).bind fun t231 => ((laws_xSum.f kj53 t201).bind fun t232 => (if t231 = (wrap64 ((wrap64 (t200 + t232)) - (wrap64 (t200 - t223)))) then (laws_FnTripsOfChips.l0 kj53 l1 t198 t225 t201 (t201.length : Int) 0) else (some false)))) = some r := by rw [if_neg (show ¬ (false = true) by decide)] at H; exact H
          clear H
          have H := H1
          clear H1
          replace H := Option.bind_eq_some_iff.mp H
          obtain ⟨t231, A720, H⟩ := H
          replace H : ((laws_xSum.f kj53 t201).bind fun t232 => (if t231 = (wrap64 ((wrap64 (t200 + t232)) - (wrap64 (t200 - t223)))) then (laws_FnTripsOfChips.l0 kj53 l1 t198 t225 t201 (t201.length : Int) 0) else (some false))) = some r := H
          have A72 := Aside0.mk A720
          clear A720
          replace H := Option.bind_eq_some_iff.mp H
          obtain ⟨t232, A730, H⟩ := H
          replace H : (if t231 = (wrap64 ((wrap64 (t200 + t232)) - (wrap64 (t200 - t223)))) then (laws_FnTripsOfChips.l0 kj53 l1 t198 t225 t201 (t201.length : Int) 0) else (some false)) = some r := H
          have A73 := Aside0.mk A730
          clear A730
          by_cases c74 : t231 = (wrap64 ((wrap64 (t200 + t232)) - (wrap64 (t200 - t223))))
          ·rw [if_pos c74] at H
           have c74b0 : (t231 == (wrap64 ((wrap64 (t200 + t232)) - (wrap64 (t200 - t223))))) = true := beq_iff_eq.mpr c74
           have c74b1 : (t231 != (wrap64 ((wrap64 (t200 + t232)) - (wrap64 (t200 - t223))))) = false := bne_eq_false_iff_eq.mpr c74
           clear c74
           have H' := Aside0.mk H
           clear H
           obtain ⟨Ao75, co75, eo75⟩ := Kd.R_slice HO_17.out
           subst eo75
           go_wp2_with (first | ((with_reducible refine gate_callee (f := 49) rfl ?_); refine goesL_ (some 203) rfl rfl Try.func49 (by kernel_rfl) rfl #[.slice Ao75 t213.length co75] rfl (by (try simp only [List.map_toArray, List.map_cons, List.map_nil]); first | done | rfl | (simp only [List.length_drop, List.length_take]; rfl)) ?_; (with_reducible refine (laws_xSum.calls kj53 _ _ t213 t231 _ ?side1 ?side2 A72.out).mono ?_); (case side1 => repeat (first | exact (Kd.R_reads' HO_17.out).2.2 | (with_reducible refine Kd.C_alloc ?_ _) | (with_reducible refine Kd.C_drewN ?_ _) | (with_reducible refine Kd.C_drew ?_))); (case side2 => exact (Kd.R_reads' HO_17.out).2.1); rintro e w' ⟨rfl, ⟨nd, rfl⟩⟩; refine ⟨_, rfl, ?_⟩; obtain ⟨Ao76, co76, eo76⟩ := Kd.R_slice HO_9.out; subst eo76) | ((with_reducible refine gate_callee (f := 49) rfl ?_); refine goesL_ (some 206) rfl rfl Try.func49 (by kernel_rfl) rfl #[.slice Ao76 t201.length co76] rfl (by (try simp only [List.map_toArray, List.map_cons, List.map_nil]); first | done | rfl | (simp only [List.length_drop, List.length_take]; rfl)) ?_; (with_reducible refine (laws_xSum.calls kj53 _ _ t201 t232 _ ?side1 ?side2 A73.out).mono ?_); (case side1 => repeat (first | exact (Kd.R_reads' HO_9.out).2.2 | (with_reducible refine Kd.C_alloc ?_ _) | (with_reducible refine Kd.C_drewN ?_ _) | (with_reducible refine Kd.C_drew ?_))); (case side2 => exact (Kd.R_reads' HO_9.out).2.1); rintro e w' ⟨rfl, ⟨nd, rfl⟩⟩; refine ⟨_, rfl, ?_⟩))
           apply Fc.loop cm2 cm2_ok (fun kq u_ w' => ∃ (x215_3 : Int), (u_ 215) = .int .i64 x215_3 ∧ Aside0 (laws_FnTripsOfChips.l0 kq l1 t198 t225 t201 (t201.length : Int) x215_3 = some r) ∧ Aside0 (kq ≤ kj53) ∧ Aside0 (Kd.R (Kd.int .i64) 3 w' w.heap.size (fun k_ => some k_ ≠ ((.slice Ao76 t201.length co76) : Value).ownBlock) v227 t225) ∧ Aside0 (Kd.R (Kd.int .i64) 3 w' w.heap.size (fun k_ => some k_ ≠ (v227 : Value).ownBlock) (.slice Ao76 t201.length co76) t201) ∧ Aside0 (Below w.heap.size w w')) kj53
           case atStart => exact ⟨(0), (by first | rfl | (simp; done) | (simp [*]; done)), H', ⟨Nat.le_refl _⟩, ⟨by (with_reducible repeat (first | apply Kd.R_alloc | apply Kd.R_drewN | apply Kd.R_drew)); exact Kd.R_mono HO_23.out (fun _ hk => hk.1)⟩, ⟨by (with_reducible repeat (first | apply Kd.R_alloc | apply Kd.R_drewN | apply Kd.R_drew)); exact Kd.R_mono HO_9.out (fun _ hk => hk.2)⟩, ⟨by repeat (first | (with_reducible first | exact HB.out | apply bA_ | apply bN_ | apply bD_) | exact HB.out)⟩⟩
           case round =>
            intro gk u3_ wr hrel _ _ _ _
            (try dsimp only at hrel)
            dsimp only [cm2, Fc.blend]
            generalize u3_ 215 = v215 at hrel ⊢
            clear H'
            try clear c1
            try clear c2
            try clear p2
            try clear q2
            try clear hx2
            try clear c3
            try clear c4
            try clear c5
            try clear c6
            try clear p6
            try clear c7
            try clear c15
            try clear c20
            try clear c20b0
            try clear c20b1
            try clear c20b2
            try clear c22
            try clear c23
            try clear c23b0
            try clear c23b1
            try clear c23b2
            try clear p23
            try clear q23
            try clear hx23
            try clear c25
            try clear c26
            try clear c26b0
            try clear c26b1
            try clear c27
            try clear c27b0
            try clear c27b1
            try clear c27b2
            try clear c28
            try clear c29
            try clear c31
            try clear c32
            try clear c32b0
            try clear c32b1
            try clear c32b2
            try clear c35
            try clear c36
            try clear c37
            try clear c38
            try clear c45
            try clear c46
            try clear c49
            try clear c51
            try clear c57
            try clear c58
            try clear c59
            try clear c59b0
            try clear c59b1
            try clear c61
            try clear c61b0
            try clear c61b1
            try clear c62
            try clear c62b0
            try clear c62b1
            try clear c63
            try clear c63b0
            try clear c64
            try clear c64b0
            try clear p64
            try clear c71
            try clear c74
            try clear c74b0
            try clear c74b1
            try clear hx230_0
            try clear p2
            try clear p23
            try clear p230
            try clear p6
            try clear p64
            try clear q2
            try clear q23
            try clear q230
            obtain ⟨x215_3, rfl, HA, HK3, HO_23, HO_213, HB⟩ := hrel
            cases gk with
            | zero => exact absurd HA.out (by simp [laws_FnTripsOfChips.l0])
            | succ k3 =>
             have H := HA.out
             clear HA
             simp only [laws_FnTripsOfChips.l0] at H
             by_cases c77 : x215_3 < (t201.length : Int)
             ·rw [if_pos c77] at H
              have c77b0 : decide (x215_3 < (t201.length : Int)) = true := decide_eq_true c77
              clear c77
              by_cases c78 : 0 ≤ x215_3
              ·rw [if_pos c78] at H
               have c78b0 : decide (0 ≤ x215_3) = true := decide_eq_true c78
               clear c78
               by_cases c79 : x215_3 < (t201.length : Int)
               ·rw [if_pos c79] at H
                have c79b0 : decide (x215_3 < (t201.length : Int)) = true := decide_eq_true c79
                clear c79
                by_cases c80 : x215_3 < (t225.length : Int)
                ·rw [if_pos c80] at H
                 have c80b0 : decide (x215_3 < (t225.length : Int)) = true := decide_eq_true c80
                 clear c80
                 by_cases c81 : (rd t225 x215_3) = 1
                 ·rw [if_pos c81] at H
                  have c81b0 : ((rd t225 x215_3) == 1) = true := beq_iff_eq.mpr c81
                  have c81b1 : ((rd t225 x215_3) != 1) = false := bne_eq_false_iff_eq.mpr c81
                  clear c81
                  by_cases c82 : (rd t201 x215_3) < t198
                  ·rw [if_pos c82] at H
                   have c82b0 : decide ((rd t201 x215_3) < t198) = true := decide_eq_true c82
                   clear c82
                   obtain rfl := Option.some.inj H
                   have p233 : 0 ≤ (x215_3 : Int) := of_decide_eq_true (by first | (with_reducible assumption) | assumption)
                   have q233 : x215_3 < (t201.length : Int) := of_decide_eq_true (by first | (with_reducible assumption) | assumption)
                   obtain ⟨ad233, e233, hx233_0⟩ := Kd.at_int (Kd.R_reads' HO_213.out).2.2 x215_3 p233 q233
                   cases e233
                   replace p233 := eq_true p233
                   replace q233 := eq_true q233
                   obtain ⟨Ao83, co83, eo83⟩ := Kd.R_slice HO_23.out
                   subst eo83
                   have p234 : 0 ≤ (x215_3 : Int) := of_decide_eq_true (by first | (with_reducible assumption) | assumption)
                   have q234 : x215_3 < (t225.length : Int) := of_decide_eq_true (by first | (with_reducible assumption) | assumption)
                   obtain ⟨ad234, e234, hx234_0⟩ := Kd.at_int (Kd.R_reads' HO_23.out).2.2 x215_3 p234 q234
                   cases e234
                   replace p234 := eq_true p234
                   replace q234 := eq_true q234
                   go_wp2
                   go_ret
                   exact ⟨by first | rfl | (simp [errW_none, errW_some] <;> rfl) | (simp [*, errW_none, errW_some] <;> rfl), by repeat (first | (with_reducible first | exact HB.out | apply bA_ | apply bN_ | apply bD_) | exact HB.out)⟩
                  ·rw [if_neg c82] at H
                   have c82b0 : decide ((rd t201 x215_3) < t198) = false := decide_eq_false c82
                   clear c82
                   by_cases c84 : (Int.tmod (wrap64 ((rd t201 x215_3) - t198)) 2) = 0
                   ·rw [if_pos c84] at H
                    have c84b0 : ((Int.tmod (wrap64 ((rd t201 x215_3) - t198)) 2) == 0) = true := beq_iff_eq.mpr c84
                    have c84b1 : ((Int.tmod (wrap64 ((rd t201 x215_3) - t198)) 2) != 0) = false := bne_eq_false_iff_eq.mpr c84
                    clear c84
                    by_cases c85 : (rd t225 x215_3) = 0
                    ·rw [if_pos c85] at H
                     have c85b0 : ((rd t225 x215_3) == 0) = true := beq_iff_eq.mpr c85
                     have c85b1 : ((rd t225 x215_3) != 0) = false := bne_eq_false_iff_eq.mpr c85
                     clear c85
                     by_cases c86 : (Int.tmod (rd t201 x215_3) 2) = 1
                     ·rw [if_pos c86] at H
                      have c86b0 : ((Int.tmod (rd t201 x215_3) 2) == 1) = true := beq_iff_eq.mpr c86
                      have c86b1 : ((Int.tmod (rd t201 x215_3) 2) != 1) = false := bne_eq_false_iff_eq.mpr c86
                      clear c86
                      have H' := Aside0.mk H
                      clear H
                      have p233 : 0 ≤ (x215_3 : Int) := of_decide_eq_true (by first | (with_reducible assumption) | assumption)
                      have q233 : x215_3 < (t201.length : Int) := of_decide_eq_true (by first | (with_reducible assumption) | assumption)
                      obtain ⟨ad233, e233, hx233_0⟩ := Kd.at_int (Kd.R_reads' HO_213.out).2.2 x215_3 p233 q233
                      cases e233
                      replace p233 := eq_true p233
                      replace q233 := eq_true q233
                      obtain ⟨Ao87, co87, eo87⟩ := Kd.R_slice HO_23.out
                      subst eo87
                      have p234 : 0 ≤ (x215_3 : Int) := of_decide_eq_true (by first | (with_reducible assumption) | assumption)
                      have q234 : x215_3 < (t225.length : Int) := of_decide_eq_true (by first | (with_reducible assumption) | assumption)
                      obtain ⟨ad234, e234, hx234_0⟩ := Kd.at_int (Kd.R_reads' HO_23.out).2.2 x215_3 p234 q234
                      cases e234
                      replace p234 := eq_true p234
                      replace q234 := eq_true q234
                      have p235 : 0 ≤ (x215_3 : Int) := of_decide_eq_true (by first | (with_reducible assumption) | assumption)
                      have q235 : x215_3 < (t225.length : Int) := of_decide_eq_true (by first | (with_reducible assumption) | assumption)
                      obtain ⟨ad235, e235, hx235_0⟩ := Kd.at_int (Kd.R_reads' HO_23.out).2.2 x215_3 p235 q235
                      obtain rfl : ad234 = ad235 := (by injection e235)
                      replace p235 := eq_true p235
                      replace q235 := eq_true q235
                      go_wp2
                      refine Fc.hand k3 (by assumption) ?same ?measure ?rel
                      case same => kernel_rfl
                      case measure => have := HJ11.out; have := HJ53.out; have := HK3.out; omega
                      case rel => exact ⟨(wrap64 (x215_3 + 1)), (by first | rfl | (simp; done) | (simp [*]; done)), H', ⟨by have := HJ11.out; have := HJ53.out; have := HK3.out; (try clear c127); omega⟩, ⟨by (with_reducible repeat (first | apply Kd.R_alloc | apply Kd.R_drewN | apply Kd.R_drew)); exact HO_23.out⟩, ⟨by (with_reducible repeat (first | apply Kd.R_alloc | apply Kd.R_drewN | apply Kd.R_drew)); exact HO_213.out⟩, ⟨by repeat (first | (with_reducible first | exact HB.out | apply bA_ | apply bN_ | apply bD_) | exact HB.out)⟩⟩
                     ·rw [if_neg c86] at H
                      have c86b0 : ((Int.tmod (rd t201 x215_3) 2) == 1) = false := beq_eq_false_iff_ne.mpr c86
                      have c86b1 : ((Int.tmod (rd t201 x215_3) 2) != 1) = true := bne_iff_ne.mpr c86
                      obtain rfl := Option.some.inj H
                      have p233 : 0 ≤ (x215_3 : Int) := of_decide_eq_true (by first | (with_reducible assumption) | assumption)
                      have q233 : x215_3 < (t201.length : Int) := of_decide_eq_true (by first | (with_reducible assumption) | assumption)
                      obtain ⟨ad233, e233, hx233_0⟩ := Kd.at_int (Kd.R_reads' HO_213.out).2.2 x215_3 p233 q233
                      cases e233
                      replace p233 := eq_true p233
                      replace q233 := eq_true q233
                      obtain ⟨Ao88, co88, eo88⟩ := Kd.R_slice HO_23.out
                      subst eo88
                      have p234 : 0 ≤ (x215_3 : Int) := of_decide_eq_true (by first | (with_reducible assumption) | assumption)
                      have q234 : x215_3 < (t225.length : Int) := of_decide_eq_true (by first | (with_reducible assumption) | assumption)
                      obtain ⟨ad234, e234, hx234_0⟩ := Kd.at_int (Kd.R_reads' HO_23.out).2.2 x215_3 p234 q234
                      cases e234
                      replace p234 := eq_true p234
                      replace q234 := eq_true q234
                      have p235 : 0 ≤ (x215_3 : Int) := of_decide_eq_true (by first | (with_reducible assumption) | assumption)
                      have q235 : x215_3 < (t225.length : Int) := of_decide_eq_true (by first | (with_reducible assumption) | assumption)
                      obtain ⟨ad235, e235, hx235_0⟩ := Kd.at_int (Kd.R_reads' HO_23.out).2.2 x215_3 p235 q235
                      obtain rfl : ad234 = ad235 := (by injection e235)
                      replace p235 := eq_true p235
                      replace q235 := eq_true q235
                      go_wp2
                      go_ret
                      exact ⟨by first | rfl | (simp [errW_none, errW_some] <;> rfl) | (simp [*, errW_none, errW_some] <;> rfl), by repeat (first | (with_reducible first | exact HB.out | apply bA_ | apply bN_ | apply bD_) | exact HB.out)⟩
                    ·rw [if_neg c85] at H
                     have c85b0 : ((rd t225 x215_3) == 0) = false := beq_eq_false_iff_ne.mpr c85
                     have c85b1 : ((rd t225 x215_3) != 0) = true := bne_iff_ne.mpr c85
                     have H' := Aside0.mk H
                     clear H
                     have p233 : 0 ≤ (x215_3 : Int) := of_decide_eq_true (by first | (with_reducible assumption) | assumption)
                     have q233 : x215_3 < (t201.length : Int) := of_decide_eq_true (by first | (with_reducible assumption) | assumption)
                     obtain ⟨ad233, e233, hx233_0⟩ := Kd.at_int (Kd.R_reads' HO_213.out).2.2 x215_3 p233 q233
                     cases e233
                     replace p233 := eq_true p233
                     replace q233 := eq_true q233
                     obtain ⟨Ao89, co89, eo89⟩ := Kd.R_slice HO_23.out
                     subst eo89
                     have p234 : 0 ≤ (x215_3 : Int) := of_decide_eq_true (by first | (with_reducible assumption) | assumption)
                     have q234 : x215_3 < (t225.length : Int) := of_decide_eq_true (by first | (with_reducible assumption) | assumption)
                     obtain ⟨ad234, e234, hx234_0⟩ := Kd.at_int (Kd.R_reads' HO_23.out).2.2 x215_3 p234 q234
                     cases e234
                     replace p234 := eq_true p234
                     replace q234 := eq_true q234
                     have p235 : 0 ≤ (x215_3 : Int) := of_decide_eq_true (by first | (with_reducible assumption) | assumption)
                     have q235 : x215_3 < (t225.length : Int) := of_decide_eq_true (by first | (with_reducible assumption) | assumption)
                     obtain ⟨ad235, e235, hx235_0⟩ := Kd.at_int (Kd.R_reads' HO_23.out).2.2 x215_3 p235 q235
                     obtain rfl : ad234 = ad235 := (by injection e235)
                     replace p235 := eq_true p235
                     replace q235 := eq_true q235
                     go_wp2
                     refine Fc.hand k3 (by assumption) ?same ?measure ?rel
                     case same => kernel_rfl
                     case measure => have := HJ11.out; have := HJ53.out; have := HK3.out; omega
                     case rel => exact ⟨(wrap64 (x215_3 + 1)), (by first | rfl | (simp; done) | (simp [*]; done)), H', ⟨by have := HJ11.out; have := HJ53.out; have := HK3.out; (try clear c127); omega⟩, ⟨by (with_reducible repeat (first | apply Kd.R_alloc | apply Kd.R_drewN | apply Kd.R_drew)); exact HO_23.out⟩, ⟨by (with_reducible repeat (first | apply Kd.R_alloc | apply Kd.R_drewN | apply Kd.R_drew)); exact HO_213.out⟩, ⟨by repeat (first | (with_reducible first | exact HB.out | apply bA_ | apply bN_ | apply bD_) | exact HB.out)⟩⟩
                   ·rw [if_neg c84] at H
                    have c84b0 : ((Int.tmod (wrap64 ((rd t201 x215_3) - t198)) 2) == 0) = false := beq_eq_false_iff_ne.mpr c84
                    have c84b1 : ((Int.tmod (wrap64 ((rd t201 x215_3) - t198)) 2) != 0) = true := bne_iff_ne.mpr c84
                    clear c84
                    obtain rfl := Option.some.inj H
                    have p233 : 0 ≤ (x215_3 : Int) := of_decide_eq_true (by first | (with_reducible assumption) | assumption)
                    have q233 : x215_3 < (t201.length : Int) := of_decide_eq_true (by first | (with_reducible assumption) | assumption)
                    obtain ⟨ad233, e233, hx233_0⟩ := Kd.at_int (Kd.R_reads' HO_213.out).2.2 x215_3 p233 q233
                    cases e233
                    replace p233 := eq_true p233
                    replace q233 := eq_true q233
                    obtain ⟨Ao90, co90, eo90⟩ := Kd.R_slice HO_23.out
                    subst eo90
                    have p234 : 0 ≤ (x215_3 : Int) := of_decide_eq_true (by first | (with_reducible assumption) | assumption)
                    have q234 : x215_3 < (t225.length : Int) := of_decide_eq_true (by first | (with_reducible assumption) | assumption)
                    obtain ⟨ad234, e234, hx234_0⟩ := Kd.at_int (Kd.R_reads' HO_23.out).2.2 x215_3 p234 q234
                    cases e234
                    replace p234 := eq_true p234
                    replace q234 := eq_true q234
                    go_wp2
                    go_ret
                    exact ⟨by first | rfl | (simp [errW_none, errW_some] <;> rfl) | (simp [*, errW_none, errW_some] <;> rfl), by repeat (first | (with_reducible first | exact HB.out | apply bA_ | apply bN_ | apply bD_) | exact HB.out)⟩
                 ·rw [if_neg c81] at H
                  have c81b0 : ((rd t225 x215_3) == 1) = false := beq_eq_false_iff_ne.mpr c81
                  have c81b1 : ((rd t225 x215_3) != 1) = true := bne_iff_ne.mpr c81
                  by_cases c91 : (rd t225 x215_3) = 0
                  ·rw [if_pos c91] at H
                   have c91b0 : ((rd t225 x215_3) == 0) = true := beq_iff_eq.mpr c91
                   have c91b1 : ((rd t225 x215_3) != 0) = false := bne_eq_false_iff_eq.mpr c91
                   clear c91
                   by_cases c92 : (Int.tmod (rd t201 x215_3) 2) = 1
                   ·rw [if_pos c92] at H
                    have c92b0 : ((Int.tmod (rd t201 x215_3) 2) == 1) = true := beq_iff_eq.mpr c92
                    have c92b1 : ((Int.tmod (rd t201 x215_3) 2) != 1) = false := bne_eq_false_iff_eq.mpr c92
                    clear c92
                    have H' := Aside0.mk H
                    clear H
                    have p233 : 0 ≤ (x215_3 : Int) := of_decide_eq_true (by first | (with_reducible assumption) | assumption)
                    have q233 : x215_3 < (t201.length : Int) := of_decide_eq_true (by first | (with_reducible assumption) | assumption)
                    obtain ⟨ad233, e233, hx233_0⟩ := Kd.at_int (Kd.R_reads' HO_213.out).2.2 x215_3 p233 q233
                    cases e233
                    replace p233 := eq_true p233
                    replace q233 := eq_true q233
                    obtain ⟨Ao93, co93, eo93⟩ := Kd.R_slice HO_23.out
                    subst eo93
                    have p234 : 0 ≤ (x215_3 : Int) := of_decide_eq_true (by first | (with_reducible assumption) | assumption)
                    have q234 : x215_3 < (t225.length : Int) := of_decide_eq_true (by first | (with_reducible assumption) | assumption)
                    obtain ⟨ad234, e234, hx234_0⟩ := Kd.at_int (Kd.R_reads' HO_23.out).2.2 x215_3 p234 q234
                    cases e234
                    replace p234 := eq_true p234
                    replace q234 := eq_true q234
                    have p236 : 0 ≤ (x215_3 : Int) := of_decide_eq_true (by first | (with_reducible assumption) | assumption)
                    have q236 : x215_3 < (t225.length : Int) := of_decide_eq_true (by first | (with_reducible assumption) | assumption)
                    obtain ⟨ad236, e236, hx236_0⟩ := Kd.at_int (Kd.R_reads' HO_23.out).2.2 x215_3 p236 q236
                    obtain rfl : ad234 = ad236 := (by injection e236)
                    replace p236 := eq_true p236
                    replace q236 := eq_true q236
                    go_wp2
                    refine Fc.hand k3 (by assumption) ?same ?measure ?rel
                    case same => kernel_rfl
                    case measure => have := HJ11.out; have := HJ53.out; have := HK3.out; omega
                    case rel => exact ⟨(wrap64 (x215_3 + 1)), (by first | rfl | (simp; done) | (simp [*]; done)), H', ⟨by have := HJ11.out; have := HJ53.out; have := HK3.out; (try clear c127); omega⟩, ⟨by (with_reducible repeat (first | apply Kd.R_alloc | apply Kd.R_drewN | apply Kd.R_drew)); exact HO_23.out⟩, ⟨by (with_reducible repeat (first | apply Kd.R_alloc | apply Kd.R_drewN | apply Kd.R_drew)); exact HO_213.out⟩, ⟨by repeat (first | (with_reducible first | exact HB.out | apply bA_ | apply bN_ | apply bD_) | exact HB.out)⟩⟩
                   ·rw [if_neg c92] at H
                    have c92b0 : ((Int.tmod (rd t201 x215_3) 2) == 1) = false := beq_eq_false_iff_ne.mpr c92
                    have c92b1 : ((Int.tmod (rd t201 x215_3) 2) != 1) = true := bne_iff_ne.mpr c92
                    obtain rfl := Option.some.inj H
                    have p233 : 0 ≤ (x215_3 : Int) := of_decide_eq_true (by first | (with_reducible assumption) | assumption)
                    have q233 : x215_3 < (t201.length : Int) := of_decide_eq_true (by first | (with_reducible assumption) | assumption)
                    obtain ⟨ad233, e233, hx233_0⟩ := Kd.at_int (Kd.R_reads' HO_213.out).2.2 x215_3 p233 q233
                    cases e233
                    replace p233 := eq_true p233
                    replace q233 := eq_true q233
                    obtain ⟨Ao94, co94, eo94⟩ := Kd.R_slice HO_23.out
                    subst eo94
                    have p234 : 0 ≤ (x215_3 : Int) := of_decide_eq_true (by first | (with_reducible assumption) | assumption)
                    have q234 : x215_3 < (t225.length : Int) := of_decide_eq_true (by first | (with_reducible assumption) | assumption)
                    obtain ⟨ad234, e234, hx234_0⟩ := Kd.at_int (Kd.R_reads' HO_23.out).2.2 x215_3 p234 q234
                    cases e234
                    replace p234 := eq_true p234
                    replace q234 := eq_true q234
                    have p236 : 0 ≤ (x215_3 : Int) := of_decide_eq_true (by first | (with_reducible assumption) | assumption)
                    have q236 : x215_3 < (t225.length : Int) := of_decide_eq_true (by first | (with_reducible assumption) | assumption)
                    obtain ⟨ad236, e236, hx236_0⟩ := Kd.at_int (Kd.R_reads' HO_23.out).2.2 x215_3 p236 q236
                    obtain rfl : ad234 = ad236 := (by injection e236)
                    replace p236 := eq_true p236
                    replace q236 := eq_true q236
                    go_wp2
                    go_ret
                    exact ⟨by first | rfl | (simp [errW_none, errW_some] <;> rfl) | (simp [*, errW_none, errW_some] <;> rfl), by repeat (first | (with_reducible first | exact HB.out | apply bA_ | apply bN_ | apply bD_) | exact HB.out)⟩
                  ·rw [if_neg c91] at H
                   have c91b0 : ((rd t225 x215_3) == 0) = false := beq_eq_false_iff_ne.mpr c91
                   have c91b1 : ((rd t225 x215_3) != 0) = true := bne_iff_ne.mpr c91
                   have H' := Aside0.mk H
                   clear H
                   have p233 : 0 ≤ (x215_3 : Int) := of_decide_eq_true (by first | (with_reducible assumption) | assumption)
                   have q233 : x215_3 < (t201.length : Int) := of_decide_eq_true (by first | (with_reducible assumption) | assumption)
                   obtain ⟨ad233, e233, hx233_0⟩ := Kd.at_int (Kd.R_reads' HO_213.out).2.2 x215_3 p233 q233
                   cases e233
                   replace p233 := eq_true p233
                   replace q233 := eq_true q233
                   obtain ⟨Ao95, co95, eo95⟩ := Kd.R_slice HO_23.out
                   subst eo95
                   have p234 : 0 ≤ (x215_3 : Int) := of_decide_eq_true (by first | (with_reducible assumption) | assumption)
                   have q234 : x215_3 < (t225.length : Int) := of_decide_eq_true (by first | (with_reducible assumption) | assumption)
                   obtain ⟨ad234, e234, hx234_0⟩ := Kd.at_int (Kd.R_reads' HO_23.out).2.2 x215_3 p234 q234
                   cases e234
                   replace p234 := eq_true p234
                   replace q234 := eq_true q234
                   have p236 : 0 ≤ (x215_3 : Int) := of_decide_eq_true (by first | (with_reducible assumption) | assumption)
                   have q236 : x215_3 < (t225.length : Int) := of_decide_eq_true (by first | (with_reducible assumption) | assumption)
                   obtain ⟨ad236, e236, hx236_0⟩ := Kd.at_int (Kd.R_reads' HO_23.out).2.2 x215_3 p236 q236
                   obtain rfl : ad234 = ad236 := (by injection e236)
                   replace p236 := eq_true p236
                   replace q236 := eq_true q236
                   go_wp2
                   refine Fc.hand k3 (by assumption) ?same ?measure ?rel
                   case same => kernel_rfl
                   case measure => have := HJ11.out; have := HJ53.out; have := HK3.out; omega
                   case rel => exact ⟨(wrap64 (x215_3 + 1)), (by first | rfl | (simp; done) | (simp [*]; done)), H', ⟨by have := HJ11.out; have := HJ53.out; have := HK3.out; (try clear c127); omega⟩, ⟨by (with_reducible repeat (first | apply Kd.R_alloc | apply Kd.R_drewN | apply Kd.R_drew)); exact HO_23.out⟩, ⟨by (with_reducible repeat (first | apply Kd.R_alloc | apply Kd.R_drewN | apply Kd.R_drew)); exact HO_213.out⟩, ⟨by repeat (first | (with_reducible first | exact HB.out | apply bA_ | apply bN_ | apply bD_) | exact HB.out)⟩⟩
                ·rw [if_neg c80] at H
                 exact absurd H (by simp)
               ·rw [if_neg c79] at H
                exact absurd H (by simp)
              ·rw [if_neg c78] at H
               exact absurd H (by simp)
             ·rw [if_neg c77] at H
              have c77b0 : decide (x215_3 < (t201.length : Int)) = false := decide_eq_false c77
              clear c77
              have H' := Aside0.mk H
              clear H
              go_wp2
              refine Fc.meet (by assumption) ?same ?rel
              case same => kernel_rfl
              case rel => exact ⟨_, H', ⟨by have := HJ11.out; have := HJ53.out; have := HK3.out; (try clear c127); first | omega | exact Nat.le_refl _⟩, ⟨by repeat (first | (with_reducible first | exact HB.out | apply bA_ | apply bN_ | apply bD_) | exact HB.out)⟩⟩
          ·rw [if_neg c74] at H
           have c74b0 : (t231 == (wrap64 ((wrap64 (t200 + t232)) - (wrap64 (t200 - t223))))) = false := beq_eq_false_iff_ne.mpr c74
           have c74b1 : (t231 != (wrap64 ((wrap64 (t200 + t232)) - (wrap64 (t200 - t223))))) = true := bne_iff_ne.mpr c74
           clear c74
           obtain rfl := Option.some.inj H
           obtain ⟨Ao96, co96, eo96⟩ := Kd.R_slice HO_17.out
           subst eo96
           go_wp2_with (first | ((with_reducible refine gate_callee (f := 49) rfl ?_); refine goesL_ (some 203) rfl rfl Try.func49 (by kernel_rfl) rfl #[.slice Ao96 t213.length co96] rfl (by (try simp only [List.map_toArray, List.map_cons, List.map_nil]); first | done | rfl | (simp only [List.length_drop, List.length_take]; rfl)) ?_; (with_reducible refine (laws_xSum.calls kj53 _ _ t213 t231 _ ?side1 ?side2 A72.out).mono ?_); (case side1 => repeat (first | exact (Kd.R_reads' HO_17.out).2.2 | (with_reducible refine Kd.C_alloc ?_ _) | (with_reducible refine Kd.C_drewN ?_ _) | (with_reducible refine Kd.C_drew ?_))); (case side2 => exact (Kd.R_reads' HO_17.out).2.1); rintro e w' ⟨rfl, ⟨nd, rfl⟩⟩; refine ⟨_, rfl, ?_⟩; obtain ⟨Ao97, co97, eo97⟩ := Kd.R_slice HO_9.out; subst eo97) | ((with_reducible refine gate_callee (f := 49) rfl ?_); refine goesL_ (some 206) rfl rfl Try.func49 (by kernel_rfl) rfl #[.slice Ao97 t201.length co97] rfl (by (try simp only [List.map_toArray, List.map_cons, List.map_nil]); first | done | rfl | (simp only [List.length_drop, List.length_take]; rfl)) ?_; (with_reducible refine (laws_xSum.calls kj53 _ _ t201 t232 _ ?side1 ?side2 A73.out).mono ?_); (case side1 => repeat (first | exact (Kd.R_reads' HO_9.out).2.2 | (with_reducible refine Kd.C_alloc ?_ _) | (with_reducible refine Kd.C_drewN ?_ _) | (with_reducible refine Kd.C_drew ?_))); (case side2 => exact (Kd.R_reads' HO_9.out).2.1); rintro e w' ⟨rfl, ⟨nd, rfl⟩⟩; refine ⟨_, rfl, ?_⟩))
           go_ret
           exact ⟨by first | rfl | (simp [errW_none, errW_some] <;> rfl) | (simp [*, errW_none, errW_some] <;> rfl), by repeat (first | (with_reducible first | exact HB.out | apply bA_ | apply bN_ | apply bD_) | exact HB.out)⟩
      ·replace c51 := Bool.eq_false_iff.mpr c51
       subst c51
       have H1 : (laws_FnTripsOfChips.j3 kj11 l1) = some r := by rw [if_neg (show ¬ (false = true) by decide)] at H; exact H
       clear H
       have H := H1
       clear H1
       have H' := Aside0.mk H
       clear H
       go_wp2
       refine Fc.meet (by assumption) ?same ?rel
       case same => kernel_rfl
       case rel => exact ⟨_, H', ⟨by have := HJ11.out; (try clear c127); first | omega | exact Nat.le_refl _⟩, ⟨by repeat (first | (with_reducible first | exact HB.out | apply bA_ | apply bN_ | apply bD_) | exact HB.out)⟩⟩
     case rest =>
      intro u1_ wc hcut
      (try dsimp only at hcut)
      dsimp only [cm1, Fc.blend]
      clear HC50
      try clear c1
      try clear c2
      try clear p2
      try clear q2
      try clear hx2
      try clear c3
      try clear c4
      try clear c5
      try clear c6
      try clear p6
      try clear c7
      try clear c8
      try clear c9
      try clear c15
      try clear c20
      try clear c20b0
      try clear c20b1
      try clear c20b2
      try clear c22
      try clear c23
      try clear c23b0
      try clear c23b1
      try clear c23b2
      try clear p23
      try clear q23
      try clear hx23
      try clear c25
      try clear c26
      try clear c26b0
      try clear c26b1
      try clear c27
      try clear c27b0
      try clear c27b1
      try clear c27b2
      try clear c28
      try clear c29
      try clear c31
      try clear c32
      try clear c32b0
      try clear c32b1
      try clear c32b2
      try clear c35
      try clear c36
      try clear c37
      try clear c38
      try clear c45
      try clear c46
      try clear c49
      try clear c51
      try clear c57
      try clear c58
      try clear c59
      try clear c59b0
      try clear c59b1
      try clear c61
      try clear c61b0
      try clear c61b1
      try clear c62
      try clear c62b0
      try clear c62b1
      try clear c63
      try clear c63b0
      try clear c64
      try clear c64b0
      try clear p64
      try clear c71
      try clear c74
      try clear c74b0
      try clear c74b1
      try clear c77
      try clear c77b0
      try clear c78
      try clear c78b0
      try clear c79
      try clear c79b0
      try clear c80
      try clear c80b0
      try clear c81
      try clear c81b0
      try clear c81b1
      try clear c82
      try clear c82b0
      try clear c84
      try clear c84b0
      try clear c84b1
      try clear c85
      try clear c85b0
      try clear c85b1
      try clear c86
      try clear c86b0
      try clear c86b1
      try clear c91
      try clear c91b0
      try clear c91b1
      try clear c92
      try clear c92b0
      try clear c92b1
      try clear hx230_0
      try clear hx233_0
      try clear hx234_0
      try clear hx235_0
      try clear hx236_0
      try clear p2
      try clear p23
      try clear p230
      try clear p233
      try clear p234
      try clear p235
      try clear p236
      try clear p6
      try clear p64
      try clear q2
      try clear q23
      try clear q230
      try clear q233
      try clear q234
      try clear q235
      try clear q236
      obtain ⟨kq, HA, HJ49, HB⟩ := hcut
      cases kq with
      | zero => exact absurd HA.out (by simp [laws_FnTripsOfChips.j3])
      | succ kj49 =>
       have H := HA.out
       clear HA
       simp only [laws_FnTripsOfChips.j3] at H
       replace H := Option.bind_eq_some_iff.mp H
       obtain ⟨⟨t237, t238, t239, t240, t241⟩, A980, H⟩ := H
       replace H : ((impl_RotorsOnLevel.f t237 t238 t239 t240 t241).bind fun bt242 => ((spec_RotorsOnLevel.f t237 t238 t239 t240 t241).bind fun bt246 => (if (bt242.2 != bt246.2) = true then (laws_FnTripsOfChips.j4 kj49 l1 t237 t238 t239 t240 t241 bt242.1 bt242.2 true) else ((laws_xSame.f kj49 bt242.1 bt246.1).bind fun t250 => (laws_FnTripsOfChips.j4 kj49 l1 t237 t238 t239 t240 t241 bt242.1 bt242.2 (!t250)))))) = some r := H
       have A98 := Aside0.mk A980
       clear A980
       replace H := Option.bind_eq_some_iff.mp H
       obtain ⟨⟨t242, t243⟩, A990, H⟩ := H
       replace H : ((spec_RotorsOnLevel.f t237 t238 t239 t240 t241).bind fun bt246 => (if (t243 != bt246.2) = true then (laws_FnTripsOfChips.j4 kj49 l1 t237 t238 t239 t240 t241 t242 t243 true) else ((laws_xSame.f kj49 t242 bt246.1).bind fun t250 => (laws_FnTripsOfChips.j4 kj49 l1 t237 t238 t239 t240 t241 t242 t243 (!t250))))) = some r := H
       have A99 := Aside0.mk A990
       clear A990
       replace H := Option.bind_eq_some_iff.mp H
       obtain ⟨⟨t246, t247⟩, A1000, H⟩ := H
       replace H : (if (t243 != t247) = true then (laws_FnTripsOfChips.j4 kj49 l1 t237 t238 t239 t240 t241 t242 t243 true) else ((laws_xSame.f kj49 t242 t246).bind fun t250 => (laws_FnTripsOfChips.j4 kj49 l1 t237 t238 t239 t240 t241 t242 t243 (!t250)))) = some r := H
       have A100 := Aside0.mk A1000
       clear A1000
       have HC101 := Aside0.mk H
       clear H
       go_upto_region 28 with (first | ((with_reducible refine gate_callee (f := 50) rfl ?_); refine goesL_ (some 252) rfl rfl Try.func50 (by kernel_rfl) rfl #[.slice A1 l1.length c1] rfl (by (try simp only [List.map_toArray, List.map_cons, List.map_nil]); first | done | rfl | (simp only [List.length_drop, List.length_take]; rfl)) ?_; (with_reducible refine (spec_DrawRotorsOnLevel.calls kj49 _ _ l1 t237 t238 t239 t240 t241 _ ?side1 ?side2 A98.out).mono ?_); (case side1 => repeat (first | exact (Kd.C_below HR1.out HB.out) | (with_reducible refine Kd.C_alloc ?_ _) | (with_reducible refine Kd.C_drewN ?_ _) | (with_reducible refine Kd.C_drew ?_))); (case side2 => exact HC1.out); rintro e w102 ⟨rfl, hb⟩; refine ⟨_, rfl, ?_⟩; have n0_ := Aside0.mk (bP_ (by repeat (first | (with_reducible first | exact HB.out | apply bA_ | apply bN_ | apply bD_) | exact HB.out)) hb); clear HB; have HB := n0_; clear n0_; (try clear hb); (try clear hb2); (try clear hk); (try clear hi)) | ((with_reducible refine gate_callee (f := 40) rfl ?_); refine goesL_ (some 264) rfl rfl Try.func40 (by kernel_rfl) rfl #[.int .i64 t237, .int .i64 t238, .int .i64 t239, .int .i64 t240, .int .i64 t241] rfl (by (try simp only [List.map_toArray, List.map_cons, List.map_nil]); first | done | rfl | (simp only [List.length_drop, List.length_take]; rfl)) ?_; (with_reducible refine (impl_RotorsOnLevel.calls t237 t238 t239 t240 t241 t242 t243 _ A99.out).mono ?_); rintro e w103 ⟨v244, rfl, ho0, hb⟩; refine ⟨_, rfl, ?_⟩; have n0_ := Aside0.mk (Kd.R_lower ho0 (bZ_ (by repeat (first | (with_reducible first | exact HB.out | apply bA_ | apply bN_ | apply bD_) | exact HB.out)))); have n1_ := Aside0.mk (bP_ (by repeat (first | (with_reducible first | exact HB.out | apply bA_ | apply bN_ | apply bD_) | exact HB.out)) hb); clear HB; have HO245 := n0_; have HB := n1_; clear n0_ n1_; (try clear hb); (try clear hb2); (try clear hk); (try clear hi); (try clear ho0)) | ((with_reducible refine gate_callee (f := 39) rfl ?_); refine goesL_ (some 273) rfl rfl Try.func39 (by kernel_rfl) rfl #[.int .i64 t237, .int .i64 t238, .int .i64 t239, .int .i64 t240, .int .i64 t241] rfl (by (try simp only [List.map_toArray, List.map_cons, List.map_nil]); first | done | rfl | (simp only [List.length_drop, List.length_take]; rfl)) ?_; (with_reducible refine (spec_RotorsOnLevel.calls t237 t238 t239 t240 t241 t246 t247 _ A100.out).mono ?_); rintro e w104 ⟨v248, rfl, ho0, hb⟩; refine ⟨_, rfl, ?_⟩; have n0_ := Aside0.mk (Kd.R_elder' (by (with_reducible repeat (first | apply Kd.R_alloc | apply Kd.R_drewN | apply Kd.R_drew)); exact HO245.out) (Kd.R_base ho0) hb); have n1_ := Aside0.mk (Kd.R_lower (Kd.R_new' ho0 (Kd.R_lt (by (with_reducible repeat (first | apply Kd.R_alloc | apply Kd.R_drewN | apply Kd.R_drew)); exact HO245.out))) (bZ_ (by repeat (first | (with_reducible first | exact HB.out | apply bA_ | apply bN_ | apply bD_) | exact HB.out)))); have n2_ := Aside0.mk (bP_ (by repeat (first | (with_reducible first | exact HB.out | apply bA_ | apply bN_ | apply bD_) | exact HB.out)) hb); clear HO245; clear HB; have HO245 := n0_; have HO249 := n1_; have HB := n2_; clear n0_ n1_ n2_; (try clear hb); (try clear hb2); (try clear hk); (try clear hi); (try clear ho0)))
       (try simp only [Act.put, List.setIfInBounds_toArray, List.set_cons_zero, List.set_cons_succ])
       apply Fc.cut cm0 cm0_ok (fun u_ wc => ∃ (kq : Nat) (x284_100 : Bool), (u_ 284) = .bool x284_100 ∧ Aside0 (laws_FnTripsOfChips.j4 kq l1 t237 t238 t239 t240 t241 t242 t243 x284_100 = some r) ∧ Aside0 (kq ≤ kj49) ∧ Aside0 (Kd.R (Kd.int .i64) 3 wc w.heap.size (fun _ => True) v244 t242) ∧ Aside0 (Below w.heap.size w wc))
       case first =>
        intro _ _ _ _
        have H := HC101.out
        clear HC101
        by_cases c105 : (t243 != t247) = true
        ·rw [if_pos c105] at H
         have c105b0 : (t243 != t247) = true := c105
         (try (have c105b1 : decide (t243 = t247) = false := by simpa using c105))
         (try (have c105b2 : (t243 == t247) = false := by simpa using c105))
         (try (have c105b3 : ¬ (t243 = t247) := by simpa using c105))
         clear c105
         (first | rw [c105b0] | (simp only [i64_w, i32_w]; rw [c105b0]) | skip)
         have H' := Aside0.mk H
         clear H
         go_wp2
         refine Fc.meet (by assumption) ?same ?rel
         case same => kernel_rfl
         case rel => exact ⟨_, (true), (by first | rfl | (simp; done) | (simp [*]; done)), H', ⟨by have := HJ11.out; have := HJ49.out; (try clear c127); first | omega | exact Nat.le_refl _⟩, ⟨by (with_reducible repeat (first | apply Kd.R_alloc | apply Kd.R_drewN | apply Kd.R_drew)); exact Kd.R_mono HO245.out (fun _ hk => trivial)⟩, ⟨by repeat (first | (with_reducible first | exact HB.out | apply bA_ | apply bN_ | apply bD_) | exact HB.out)⟩⟩
        ·rw [if_neg c105] at H
         have c105b0 : (t243 != t247) = false := by simpa using c105
         (try (have c105b1 : decide (t243 = t247) = true := by simpa using c105))
         (try (have c105b2 : (t243 == t247) = true := by simpa using c105))
         clear c105
         (first | rw [c105b0] | (simp only [i64_w, i32_w]; rw [c105b0]) | skip)
         replace H := Option.bind_eq_some_iff.mp H
         obtain ⟨t250, A1060, H⟩ := H
         replace H : (laws_FnTripsOfChips.j4 kj49 l1 t237 t238 t239 t240 t241 t242 t243 (!t250)) = some r := H
         have A106 := Aside0.mk A1060
         clear A1060
         have H' := Aside0.mk H
         clear H
         obtain ⟨Ao107, co107, eo107⟩ := Kd.R_slice HO245.out
         subst eo107
         obtain ⟨Ao108, co108, eo108⟩ := Kd.R_slice HO249.out
         subst eo108
         go_wp2_with (first | (go_at_call 47; (with_reducible refine (laws_xSame.calls kj49 _ _ t242 _ _ t246 t250 _ ?side1 ?side2 ?side3 ?side4 A106.out).mono ?_); (case side1 => repeat (first | exact (Kd.R_reads' HO245.out).2.2 | (with_reducible refine Kd.C_alloc ?_ _) | (with_reducible refine Kd.C_drewN ?_ _) | (with_reducible refine Kd.C_drew ?_))); (case side2 => exact (Kd.R_reads' HO245.out).2.1); (case side3 => repeat (first | exact (Kd.R_reads' HO249.out).2.2 | (with_reducible refine Kd.C_alloc ?_ _) | (with_reducible refine Kd.C_drewN ?_ _) | (with_reducible refine Kd.C_drew ?_))); (case side4 => exact (Kd.R_reads' HO249.out).2.1); rintro e w' ⟨rfl, ⟨nd, rfl⟩⟩))
         refine Fc.meet (by assumption) ?same ?rel
         case same => kernel_rfl
         case rel => exact ⟨_, (!t250), (by first | rfl | (simp; done) | (simp [*]; done)), H', ⟨by have := HJ11.out; have := HJ49.out; (try clear c127); first | omega | exact Nat.le_refl _⟩, ⟨by (with_reducible repeat (first | apply Kd.R_alloc | apply Kd.R_drewN | apply Kd.R_drew)); exact Kd.R_mono HO245.out (fun _ hk => trivial)⟩, ⟨by repeat (first | (with_reducible first | exact HB.out | apply bA_ | apply bN_ | apply bD_) | exact HB.out)⟩⟩
       case rest =>
        intro u4_ wc hcut
        (try dsimp only at hcut)
        dsimp only [cm0, Fc.blend]
        generalize u4_ 284 = v284 at hcut ⊢
        clear HC101
        try clear c1
        try clear c2
        try clear p2
        try clear q2
        try clear hx2
        try clear c3
        try clear c4
        try clear c5
        try clear c6
        try clear p6
        try clear c7
        try clear c8
        try clear c9
        try clear c10
        try clear c15
        try clear c20
        try clear c20b0
        try clear c20b1
        try clear c20b2
        try clear c22
        try clear c23
        try clear c23b0
        try clear c23b1
        try clear c23b2
        try clear p23
        try clear q23
        try clear hx23
        try clear c25
        try clear c26
        try clear c26b0
        try clear c26b1
        try clear c27
        try clear c27b0
        try clear c27b1
        try clear c27b2
        try clear c28
        try clear c29
        try clear c31
        try clear c32
        try clear c32b0
        try clear c32b1
        try clear c32b2
        try clear c35
        try clear c36
        try clear c37
        try clear c38
        try clear c39
        try clear c40
        try clear c45
        try clear c46
        try clear c49
        try clear c50
        try clear c51
        try clear c57
        try clear c58
        try clear c59
        try clear c59b0
        try clear c59b1
        try clear c61
        try clear c61b0
        try clear c61b1
        try clear c62
        try clear c62b0
        try clear c62b1
        try clear c63
        try clear c63b0
        try clear c64
        try clear c64b0
        try clear p64
        try clear c71
        try clear c74
        try clear c74b0
        try clear c74b1
        try clear c77
        try clear c77b0
        try clear c78
        try clear c78b0
        try clear c79
        try clear c79b0
        try clear c80
        try clear c80b0
        try clear c81
        try clear c81b0
        try clear c81b1
        try clear c82
        try clear c82b0
        try clear c84
        try clear c84b0
        try clear c84b1
        try clear c85
        try clear c85b0
        try clear c85b1
        try clear c86
        try clear c86b0
        try clear c86b1
        try clear c91
        try clear c91b0
        try clear c91b1
        try clear c92
        try clear c92b0
        try clear c92b1
        try clear c105
        try clear c105b0
        try clear c105b1
        try clear c105b2
        try clear hx230_0
        try clear hx233_0
        try clear hx234_0
        try clear hx235_0
        try clear hx236_0
        try clear p2
        try clear p23
        try clear p230
        try clear p233
        try clear p234
        try clear p235
        try clear p236
        try clear p6
        try clear p64
        try clear q2
        try clear q23
        try clear q230
        try clear q233
        try clear q234
        try clear q235
        try clear q236
        obtain ⟨kq, x284_100, rfl, HA, HJ100, HO_32, HB⟩ := hcut
        cases kq with
        | zero => exact absurd HA.out (by simp [laws_FnTripsOfChips.j4])
        | succ kj100 =>
         have H := HA.out
         clear HA
         simp only [laws_FnTripsOfChips.j4] at H
         by_cases c109 : x284_100 = true
         ·subst c109
          have H1 : (some false) = some r := by rw [if_pos rfl] at H; exact H
          clear H
          have H := H1
          clear H1
          obtain rfl := Option.some.inj H
          go_wp2
          go_ret
          exact ⟨by first | rfl | (simp [errW_none, errW_some] <;> rfl) | (simp [*, errW_none, errW_some] <;> rfl), by repeat (first | (with_reducible first | exact HB.out | apply bA_ | apply bN_ | apply bD_) | exact HB.out)⟩
         ·replace c109 := Bool.eq_false_iff.mpr c109
          subst c109
          have H1 : (if t243 = true then (laws_FnTripsOfChips.l1 kj100 l1 t237 t238 t239 t240 t241 t242 1 0) else (laws_FnTripsOfChips.j8 kj100 l1)) = some r := by rw [if_neg (show ¬ (false = true) by decide)] at H; exact H
          clear H
          have H := H1
          clear H1
          have HC110 := Aside0.mk H
          clear H
          go_upto_if 285 with (fail)
          apply Fc.cut cm3 cm3_ok (fun u_ wc => ∃ (kq : Nat), Aside0 (laws_FnTripsOfChips.j8 kq l1 = some r) ∧ Aside0 (kq ≤ kj100) ∧ Aside0 (Below w.heap.size w wc))
          case first =>
           intro _ _ _ _
           have H := HC110.out
           clear HC110
           by_cases c111 : t243 = true
           ·subst c111
            have H1 : (laws_FnTripsOfChips.l1 kj100 l1 t237 t238 t239 t240 t241 t242 1 0) = some r := by rw [if_pos rfl] at H; exact H
            clear H
            have H := H1
            clear H1
            have H' := Aside0.mk H
            clear H
            go_wp2
            apply Fc.loop cm4 cm4_ok (fun kq u_ w' => ∃ (x36_4 : Int) (x37_4 : Int), (u_ 36) = .int .i64 x36_4 ∧ (u_ 37) = .int .i64 x37_4 ∧ Aside0 (laws_FnTripsOfChips.l1 kq l1 t237 t238 t239 t240 t241 t242 x36_4 x37_4 = some r) ∧ Aside0 (kq ≤ kj100) ∧ Aside0 (Kd.R (Kd.int .i64) 3 w' w.heap.size (fun _ => True) v244 t242) ∧ Aside0 (Below w.heap.size w w')) kj100
            case atStart => exact ⟨(1), (0), (by first | rfl | (simp; done) | (simp [*]; done)), (by first | rfl | (simp; done) | (simp [*]; done)), H', ⟨Nat.le_refl _⟩, ⟨by (with_reducible repeat (first | apply Kd.R_alloc | apply Kd.R_drewN | apply Kd.R_drew)); exact HO_32.out⟩, ⟨by repeat (first | (with_reducible first | exact HB.out | apply bA_ | apply bN_ | apply bD_) | exact HB.out)⟩⟩
            case round =>
             intro gk u6_ wr hrel _ _ _ _
             (try dsimp only at hrel)
             dsimp only [cm4, Fc.blend]
             generalize u6_ 36 = v36 at hrel ⊢
             generalize u6_ 37 = v37 at hrel ⊢
             clear H'
             try clear c1
             try clear c2
             try clear p2
             try clear q2
             try clear hx2
             try clear c3
             try clear c4
             try clear c5
             try clear c6
             try clear p6
             try clear c7
             try clear c8
             try clear c9
             try clear c10
             try clear c11
             try clear c15
             try clear c20
             try clear c20b0
             try clear c20b1
             try clear c20b2
             try clear c22
             try clear c23
             try clear c23b0
             try clear c23b1
             try clear c23b2
             try clear p23
             try clear q23
             try clear hx23
             try clear c25
             try clear c26
             try clear c26b0
             try clear c26b1
             try clear c27
             try clear c27b0
             try clear c27b1
             try clear c27b2
             try clear c28
             try clear c29
             try clear c31
             try clear c32
             try clear c32b0
             try clear c32b1
             try clear c32b2
             try clear c35
             try clear c36
             try clear c37
             try clear c38
             try clear c39
             try clear c40
             try clear c45
             try clear c46
             try clear c49
             try clear c50
             try clear c51
             try clear c57
             try clear c58
             try clear c59
             try clear c59b0
             try clear c59b1
             try clear c61
             try clear c61b0
             try clear c61b1
             try clear c62
             try clear c62b0
             try clear c62b1
             try clear c63
             try clear c63b0
             try clear c64
             try clear c64b0
             try clear p64
             try clear c71
             try clear c74
             try clear c74b0
             try clear c74b1
             try clear c77
             try clear c77b0
             try clear c78
             try clear c78b0
             try clear c79
             try clear c79b0
             try clear c80
             try clear c80b0
             try clear c81
             try clear c81b0
             try clear c81b1
             try clear c82
             try clear c82b0
             try clear c84
             try clear c84b0
             try clear c84b1
             try clear c85
             try clear c85b0
             try clear c85b1
             try clear c86
             try clear c86b0
             try clear c86b1
             try clear c91
             try clear c91b0
             try clear c91b1
             try clear c92
             try clear c92b0
             try clear c92b1
             try clear c105
             try clear c105b0
             try clear c105b1
             try clear c105b2
             try clear c109
             try clear c111
             try clear hx230_0
             try clear hx233_0
             try clear hx234_0
             try clear hx235_0
             try clear hx236_0
             try clear p2
             try clear p23
             try clear p230
             try clear p233
             try clear p234
             try clear p235
             try clear p236
             try clear p6
             try clear p64
             try clear q2
             try clear q23
             try clear q230
             try clear q233
             try clear q234
             try clear q235
             try clear q236
             obtain ⟨x36_4, x37_4, rfl, rfl, HA, HK4, HO_32, HB⟩ := hrel
             cases gk with
             | zero => exact absurd HA.out (by simp [laws_FnTripsOfChips.l1])
             | succ k4 =>
              have H := HA.out
              clear HA
              simp only [laws_FnTripsOfChips.l1] at H
              by_cases c112 : x37_4 < t241
              ·rw [if_pos c112] at H
               have c112b0 : decide (x37_4 < t241) = true := decide_eq_true c112
               clear c112
               (first | rw [c112b0] | (simp only [i64_w, i32_w]; rw [c112b0]) | skip)
               have H' := Aside0.mk H
               clear H
               go_wp2
               refine Fc.hand k4 (by assumption) ?same ?measure ?rel
               case same => kernel_rfl
               case measure => have := HJ11.out; have := HJ49.out; have := HJ100.out; have := HK4.out; omega
               case rel => exact ⟨(wrap64 (x36_4 * t237)), (wrap64 (x37_4 + 1)), (by first | rfl | (simp; done) | (simp [*]; done)), (by first | rfl | (simp; done) | (simp [*]; done)), H', ⟨by have := HJ11.out; have := HJ49.out; have := HJ100.out; have := HK4.out; (try clear c127); omega⟩, ⟨by (with_reducible repeat (first | apply Kd.R_alloc | apply Kd.R_drewN | apply Kd.R_drew)); exact HO_32.out⟩, ⟨by repeat (first | (with_reducible first | exact HB.out | apply bA_ | apply bN_ | apply bD_) | exact HB.out)⟩⟩
              ·rw [if_neg c112] at H
               have c112b0 : decide (x37_4 < t241) = false := decide_eq_false c112
               clear c112
               (first | rw [c112b0] | (simp only [i64_w, i32_w]; rw [c112b0]) | skip)
               replace H := Option.bind_eq_some_iff.mp H
               obtain ⟨⟨t251, t252⟩, A1130, H⟩ := H
               replace H : (if t252 = true then (laws_FnTripsOfChips.j6 k4 l1 t237 t239 t241 t242 t251 ((t242.length : Int) != x36_4)) else (laws_FnTripsOfChips.j6 k4 l1 t237 t239 t241 t242 t251 true)) = some r := H
               have A113 := Aside0.mk A1130
               clear A1130
               have HC114 := Aside0.mk H
               clear H
               go_upto_region 37 with (first | ((with_reducible refine gate_callee (f := 36) rfl ?_); refine goesL_ (some 299) rfl rfl Try.func36 (by kernel_rfl) rfl #[.int .i64 t237, .int .i64 t238, .int .i64 t239, .int .i64 t240] rfl (by (try simp only [List.map_toArray, List.map_cons, List.map_nil]); first | done | rfl | (simp only [List.length_drop, List.length_take]; rfl)) ?_; (with_reducible refine (impl_LevelVisits.calls t237 t238 t239 t240 t251 t252 _ A113.out).mono ?_); rintro e w115 ⟨v253, rfl, ho0, hb⟩; refine ⟨_, rfl, ?_⟩; have n0_ := Aside0.mk (Kd.R_elder' (by (with_reducible repeat (first | apply Kd.R_alloc | apply Kd.R_drewN | apply Kd.R_drew)); exact HO_32.out) (Kd.R_base ho0) hb); have n1_ := Aside0.mk (Kd.R_lower (Kd.R_new' ho0 (Kd.R_lt (by (with_reducible repeat (first | apply Kd.R_alloc | apply Kd.R_drewN | apply Kd.R_drew)); exact HO_32.out))) (bZ_ (by repeat (first | (with_reducible first | exact HB.out | apply bA_ | apply bN_ | apply bD_) | exact HB.out)))); have n2_ := Aside0.mk (bP_ (by repeat (first | (with_reducible first | exact HB.out | apply bA_ | apply bN_ | apply bD_) | exact HB.out)) hb); clear HO_32; clear HB; have HO_32 := n0_; have HO254 := n1_; have HB := n2_; clear n0_ n1_ n2_; (try clear hb); (try clear hb2); (try clear hk); (try clear hi); (try clear ho0)))
               (try simp only [Act.put, List.setIfInBounds_toArray, List.set_cons_zero, List.set_cons_succ])
               apply Fc.cut cm0 cm0_ok (fun u_ wc => ∃ (kq : Nat) (x309_113 : Bool), (u_ 309) = .bool x309_113 ∧ Aside0 (laws_FnTripsOfChips.j6 kq l1 t237 t239 t241 t242 t251 x309_113 = some r) ∧ Aside0 (kq ≤ k4) ∧ Aside0 (Kd.R (Kd.int .i64) 3 wc w.heap.size (fun k_ => some k_ ≠ (v253 : Value).ownBlock) v244 t242) ∧ Aside0 (Kd.R (Kd.int .i64) 3 wc w.heap.size (fun k_ => some k_ ≠ (v244 : Value).ownBlock) v253 t251) ∧ Aside0 (Below w.heap.size w wc))
               case first =>
                intro _ _ _ _
                have H := HC114.out
                clear HC114
                by_cases c116 : t252 = true
                ·subst c116
                 have H1 : (laws_FnTripsOfChips.j6 k4 l1 t237 t239 t241 t242 t251 ((t242.length : Int) != x36_4)) = some r := by rw [if_pos rfl] at H; exact H
                 clear H
                 have H := H1
                 clear H1
                 have H' := Aside0.mk H
                 clear H
                 obtain ⟨Ao117, co117, eo117⟩ := Kd.R_slice HO_32.out
                 subst eo117
                 go_wp2
                 refine Fc.meet (by assumption) ?same ?rel
                 case same => kernel_rfl
                 case rel => exact ⟨_, (((t242.length : Int) != x36_4)), (by first | rfl | (simp; done) | (simp [*]; done)), H', ⟨by have := HJ11.out; have := HJ49.out; have := HJ100.out; have := HK4.out; (try clear c127); first | omega | exact Nat.le_refl _⟩, ⟨by (with_reducible repeat (first | apply Kd.R_alloc | apply Kd.R_drewN | apply Kd.R_drew)); exact Kd.R_mono HO_32.out (fun _ hk => hk.2)⟩, ⟨by (with_reducible repeat (first | apply Kd.R_alloc | apply Kd.R_drewN | apply Kd.R_drew)); exact Kd.R_mono HO254.out (fun _ hk => hk.2)⟩, ⟨by repeat (first | (with_reducible first | exact HB.out | apply bA_ | apply bN_ | apply bD_) | exact HB.out)⟩⟩
                ·replace c116 := Bool.eq_false_iff.mpr c116
                 subst c116
                 have H1 : (laws_FnTripsOfChips.j6 k4 l1 t237 t239 t241 t242 t251 true) = some r := by rw [if_neg (show ¬ (false = true) by decide)] at H; exact H
                 clear H
                 have H := H1
                 clear H1
                 have H' := Aside0.mk H
                 clear H
                 go_wp2
                 refine Fc.meet (by assumption) ?same ?rel
                 case same => kernel_rfl
                 case rel => exact ⟨_, (true), (by first | rfl | (simp; done) | (simp [*]; done)), H', ⟨by have := HJ11.out; have := HJ49.out; have := HJ100.out; have := HK4.out; (try clear c127); first | omega | exact Nat.le_refl _⟩, ⟨by (with_reducible repeat (first | apply Kd.R_alloc | apply Kd.R_drewN | apply Kd.R_drew)); exact Kd.R_mono HO_32.out (fun _ hk => hk.2)⟩, ⟨by (with_reducible repeat (first | apply Kd.R_alloc | apply Kd.R_drewN | apply Kd.R_drew)); exact Kd.R_mono HO254.out (fun _ hk => hk.2)⟩, ⟨by repeat (first | (with_reducible first | exact HB.out | apply bA_ | apply bN_ | apply bD_) | exact HB.out)⟩⟩
               case rest =>
                intro u7_ wc hcut
                (try dsimp only at hcut)
                dsimp only [cm0, Fc.blend]
                generalize u7_ 309 = v309 at hcut ⊢
                clear HC114
                try clear c1
                try clear c2
                try clear p2
                try clear q2
                try clear hx2
                try clear c3
                try clear c4
                try clear c5
                try clear c6
                try clear p6
                try clear c7
                try clear c8
                try clear c9
                try clear c10
                try clear c11
                try clear c15
                try clear c20
                try clear c20b0
                try clear c20b1
                try clear c20b2
                try clear c22
                try clear c23
                try clear c23b0
                try clear c23b1
                try clear c23b2
                try clear p23
                try clear q23
                try clear hx23
                try clear c25
                try clear c26
                try clear c26b0
                try clear c26b1
                try clear c27
                try clear c27b0
                try clear c27b1
                try clear c27b2
                try clear c28
                try clear c29
                try clear c31
                try clear c32
                try clear c32b0
                try clear c32b1
                try clear c32b2
                try clear c35
                try clear c36
                try clear c37
                try clear c38
                try clear c39
                try clear c40
                try clear c45
                try clear c46
                try clear c49
                try clear c50
                try clear c51
                try clear c57
                try clear c58
                try clear c59
                try clear c59b0
                try clear c59b1
                try clear c61
                try clear c61b0
                try clear c61b1
                try clear c62
                try clear c62b0
                try clear c62b1
                try clear c63
                try clear c63b0
                try clear c64
                try clear c64b0
                try clear p64
                try clear c71
                try clear c74
                try clear c74b0
                try clear c74b1
                try clear c77
                try clear c77b0
                try clear c78
                try clear c78b0
                try clear c79
                try clear c79b0
                try clear c80
                try clear c80b0
                try clear c81
                try clear c81b0
                try clear c81b1
                try clear c82
                try clear c82b0
                try clear c84
                try clear c84b0
                try clear c84b1
                try clear c85
                try clear c85b0
                try clear c85b1
                try clear c86
                try clear c86b0
                try clear c86b1
                try clear c91
                try clear c91b0
                try clear c91b1
                try clear c92
                try clear c92b0
                try clear c92b1
                try clear c105
                try clear c105b0
                try clear c105b1
                try clear c105b2
                try clear c109
                try clear c111
                try clear c112
                try clear c112b0
                try clear c116
                try clear hx230_0
                try clear hx233_0
                try clear hx234_0
                try clear hx235_0
                try clear hx236_0
                try clear p2
                try clear p23
                try clear p230
                try clear p233
                try clear p234
                try clear p235
                try clear p236
                try clear p6
                try clear p64
                try clear q2
                try clear q23
                try clear q230
                try clear q233
                try clear q234
                try clear q235
                try clear q236
                obtain ⟨kq, x309_113, rfl, HA, HJ113, HO_32, HO_38, HB⟩ := hcut
                cases kq with
                | zero => exact absurd HA.out (by simp [laws_FnTripsOfChips.j6])
                | succ kj113 =>
                 have H := HA.out
                 clear HA
                 simp only [laws_FnTripsOfChips.j6] at H
                 by_cases c118 : x309_113 = true
                 ·subst c118
                  have H1 : (some false) = some r := by rw [if_pos rfl] at H; exact H
                  clear H
                  have H := H1
                  clear H1
                  obtain rfl := Option.some.inj H
                  go_wp2
                  go_ret
                  exact ⟨by first | rfl | (simp [errW_none, errW_some] <;> rfl) | (simp [*, errW_none, errW_some] <;> rfl), by repeat (first | (with_reducible first | exact HB.out | apply bA_ | apply bN_ | apply bD_) | exact HB.out)⟩
                 ·replace c118 := Bool.eq_false_iff.mpr c118
                  subst c118
                  have H1 : (laws_FnTripsOfChips.l2 kj113 l1 t237 t239 t241 t251 0 t242 (t242.length : Int) 0) = some r := by rw [if_neg (show ¬ (false = true) by decide)] at H; exact H
                  clear H
                  have H := H1
                  clear H1
                  have H' := Aside0.mk H
                  clear H
                  obtain ⟨Ao119, co119, eo119⟩ := Kd.R_slice HO_32.out
                  subst eo119
                  go_wp2
                  apply Fc.loop cm5 cm5_ok (fun kq u_ w' => ∃ (x40_6 : Int) (x312_6 : Int), (u_ 40) = .int .i64 x40_6 ∧ (u_ 312) = .int .i64 x312_6 ∧ Aside0 (laws_FnTripsOfChips.l2 kq l1 t237 t239 t241 t251 x40_6 t242 (t242.length : Int) x312_6 = some r) ∧ Aside0 (kq ≤ kj113) ∧ Aside0 (Kd.R (Kd.int .i64) 3 w' w.heap.size (fun k_ => some k_ ≠ ((.slice Ao119 t242.length co119) : Value).ownBlock) v253 t251) ∧ Aside0 (Kd.R (Kd.int .i64) 3 w' w.heap.size (fun k_ => some k_ ≠ (v253 : Value).ownBlock) (.slice Ao119 t242.length co119) t242) ∧ Aside0 (Below w.heap.size w w')) kj113
                  case atStart => exact ⟨(0), (0), (by first | rfl | (simp; done) | (simp [*]; done)), (by first | rfl | (simp; done) | (simp [*]; done)), H', ⟨Nat.le_refl _⟩, ⟨by (with_reducible repeat (first | apply Kd.R_alloc | apply Kd.R_drewN | apply Kd.R_drew)); exact HO_38.out⟩, ⟨by (with_reducible repeat (first | apply Kd.R_alloc | apply Kd.R_drewN | apply Kd.R_drew)); exact HO_32.out⟩, ⟨by repeat (first | (with_reducible first | exact HB.out | apply bA_ | apply bN_ | apply bD_) | exact HB.out)⟩⟩
                  case round =>
                   intro gk u8_ wr hrel _ _ _ _
                   (try dsimp only at hrel)
                   dsimp only [cm5, Fc.blend]
                   generalize u8_ 40 = v40 at hrel ⊢
                   generalize u8_ 312 = v312 at hrel ⊢
                   clear H'
                   try clear c1
                   try clear c2
                   try clear p2
                   try clear q2
                   try clear hx2
                   try clear c3
                   try clear c4
                   try clear c5
                   try clear c6
                   try clear p6
                   try clear c7
                   try clear c8
                   try clear c9
                   try clear c10
                   try clear c11
                   try clear c15
                   try clear c20
                   try clear c20b0
                   try clear c20b1
                   try clear c20b2
                   try clear c22
                   try clear c23
                   try clear c23b0
                   try clear c23b1
                   try clear c23b2
                   try clear p23
                   try clear q23
                   try clear hx23
                   try clear c25
                   try clear c26
                   try clear c26b0
                   try clear c26b1
                   try clear c27
                   try clear c27b0
                   try clear c27b1
                   try clear c27b2
                   try clear c28
                   try clear c29
                   try clear c31
                   try clear c32
                   try clear c32b0
                   try clear c32b1
                   try clear c32b2
                   try clear c35
                   try clear c36
                   try clear c37
                   try clear c38
                   try clear c39
                   try clear c40
                   try clear c45
                   try clear c46
                   try clear c49
                   try clear c50
                   try clear c51
                   try clear c57
                   try clear c58
                   try clear c59
                   try clear c59b0
                   try clear c59b1
                   try clear c61
                   try clear c61b0
                   try clear c61b1
                   try clear c62
                   try clear c62b0
                   try clear c62b1
                   try clear c63
                   try clear c63b0
                   try clear c64
                   try clear c64b0
                   try clear p64
                   try clear c71
                   try clear c74
                   try clear c74b0
                   try clear c74b1
                   try clear c77
                   try clear c77b0
                   try clear c78
                   try clear c78b0
                   try clear c79
                   try clear c79b0
                   try clear c80
                   try clear c80b0
                   try clear c81
                   try clear c81b0
                   try clear c81b1
                   try clear c82
                   try clear c82b0
                   try clear c84
                   try clear c84b0
                   try clear c84b1
                   try clear c85
                   try clear c85b0
                   try clear c85b1
                   try clear c86
                   try clear c86b0
                   try clear c86b1
                   try clear c91
                   try clear c91b0
                   try clear c91b1
                   try clear c92
                   try clear c92b0
                   try clear c92b1
                   try clear c105
                   try clear c105b0
                   try clear c105b1
                   try clear c105b2
                   try clear c109
                   try clear c111
                   try clear c112
                   try clear c112b0
                   try clear c116
                   try clear c118
                   try clear hx230_0
                   try clear hx233_0
                   try clear hx234_0
                   try clear hx235_0
                   try clear hx236_0
                   try clear p2
                   try clear p23
                   try clear p230
                   try clear p233
                   try clear p234
                   try clear p235
                   try clear p236
                   try clear p6
                   try clear p64
                   try clear q2
                   try clear q23
                   try clear q230
                   try clear q233
                   try clear q234
                   try clear q235
                   try clear q236
                   obtain ⟨x40_6, x312_6, rfl, rfl, HA, HK6, HO_38, HO_310, HB⟩ := hrel
                   cases gk with
                   | zero => exact absurd HA.out (by simp [laws_FnTripsOfChips.l2])
                   | succ k6 =>
                    have H := HA.out
                    clear HA
                    simp only [laws_FnTripsOfChips.l2] at H
                    by_cases c120 : x312_6 < (t242.length : Int)
                    ·rw [if_pos c120] at H
                     have c120b0 : decide (x312_6 < (t242.length : Int)) = true := decide_eq_true c120
                     clear c120
                     by_cases c121 : 0 ≤ x312_6
                     ·rw [if_pos c121] at H
                      have c121b0 : decide (0 ≤ x312_6) = true := decide_eq_true c121
                      clear c121
                      by_cases c122 : x312_6 < (t242.length : Int)
                      ·rw [if_pos c122] at H
                       have c122b0 : decide (x312_6 < (t242.length : Int)) = true := decide_eq_true c122
                       clear c122
                       by_cases c123 : (rd t242 x312_6) < 0
                       ·rw [if_pos c123] at H
                        have c123b0 : decide ((rd t242 x312_6) < 0) = true := decide_eq_true c123
                        clear c123
                        obtain rfl := Option.some.inj H
                        have p255 : 0 ≤ (x312_6 : Int) := of_decide_eq_true (by first | (with_reducible assumption) | assumption)
                        have q255 : x312_6 < (t242.length : Int) := of_decide_eq_true (by first | (with_reducible assumption) | assumption)
                        obtain ⟨ad255, e255, hx255_0⟩ := Kd.at_int (Kd.R_reads' HO_310.out).2.2 x312_6 p255 q255
                        cases e255
                        replace p255 := eq_true p255
                        replace q255 := eq_true q255
                        go_wp2
                        go_ret
                        exact ⟨by first | rfl | (simp [errW_none, errW_some] <;> rfl) | (simp [*, errW_none, errW_some] <;> rfl), by repeat (first | (with_reducible first | exact HB.out | apply bA_ | apply bN_ | apply bD_) | exact HB.out)⟩
                       ·rw [if_neg c123] at H
                        have c123b0 : decide ((rd t242 x312_6) < 0) = false := decide_eq_false c123
                        clear c123
                        by_cases c124 : (rd t242 x312_6) > t237
                        ·rw [if_pos c124] at H
                         have c124b0 : decide (t237 < (rd t242 x312_6)) = true := decide_eq_true c124
                         clear c124
                         obtain rfl := Option.some.inj H
                         have p255 : 0 ≤ (x312_6 : Int) := of_decide_eq_true (by first | (with_reducible assumption) | assumption)
                         have q255 : x312_6 < (t242.length : Int) := of_decide_eq_true (by first | (with_reducible assumption) | assumption)
                         obtain ⟨ad255, e255, hx255_0⟩ := Kd.at_int (Kd.R_reads' HO_310.out).2.2 x312_6 p255 q255
                         cases e255
                         replace p255 := eq_true p255
                         replace q255 := eq_true q255
                         go_wp2
                         go_ret
                         exact ⟨by first | rfl | (simp [errW_none, errW_some] <;> rfl) | (simp [*, errW_none, errW_some] <;> rfl), by repeat (first | (with_reducible first | exact HB.out | apply bA_ | apply bN_ | apply bD_) | exact HB.out)⟩
                        ·rw [if_neg c124] at H
                         have c124b0 : decide (t237 < (rd t242 x312_6)) = false := decide_eq_false c124
                         clear c124
                         have H' := Aside0.mk H
                         clear H
                         have p255 : 0 ≤ (x312_6 : Int) := of_decide_eq_true (by first | (with_reducible assumption) | assumption)
                         have q255 : x312_6 < (t242.length : Int) := of_decide_eq_true (by first | (with_reducible assumption) | assumption)
                         obtain ⟨ad255, e255, hx255_0⟩ := Kd.at_int (Kd.R_reads' HO_310.out).2.2 x312_6 p255 q255
                         cases e255
                         replace p255 := eq_true p255
                         replace q255 := eq_true q255
                         go_wp2
                         refine Fc.hand k6 (by assumption) ?same ?measure ?rel
                         case same => kernel_rfl
                         case measure => have := HJ11.out; have := HJ49.out; have := HJ100.out; have := HK4.out; have := HJ113.out; have := HK6.out; omega
                         case rel => exact ⟨(wrap64 (x40_6 + (wrap64 ((rd t242 x312_6) - t239)))), (wrap64 (x312_6 + 1)), (by first | rfl | (simp; done) | (simp [*]; done)), (by first | rfl | (simp; done) | (simp [*]; done)), H', ⟨by have := HJ11.out; have := HJ49.out; have := HJ100.out; have := HK4.out; have := HJ113.out; have := HK6.out; (try clear c127); omega⟩, ⟨by (with_reducible repeat (first | apply Kd.R_alloc | apply Kd.R_drewN | apply Kd.R_drew)); exact HO_38.out⟩, ⟨by (with_reducible repeat (first | apply Kd.R_alloc | apply Kd.R_drewN | apply Kd.R_drew)); exact HO_310.out⟩, ⟨by repeat (first | (with_reducible first | exact HB.out | apply bA_ | apply bN_ | apply bD_) | exact HB.out)⟩⟩
                      ·rw [if_neg c122] at H
                       exact absurd H (by simp)
                     ·rw [if_neg c121] at H
                      exact absurd H (by simp)
                    ·rw [if_neg c120] at H
                     have c120b0 : decide (x312_6 < (t242.length : Int)) = false := decide_eq_false c120
                     clear c120
                     by_cases c125 : 0 ≤ t241
                     ·rw [if_pos c125] at H
                      have c125b0 : decide (0 ≤ t241) = true := decide_eq_true c125
                      clear c125
                      by_cases c126 : t241 < (t251.length : Int)
                      ·rw [if_pos c126] at H
                       have c126b0 : decide (t241 < (t251.length : Int)) = true := decide_eq_true c126
                       clear c126
                       by_cases c127 : (wrap64 (t237 + 1)) = 0
                       ·rw [if_pos c127] at H
                        exact absurd H (by simp)
                       ·rw [if_neg c127] at H
                        have c127b0 : ((wrap64 (t237 + 1)) == 0) = false := beq_eq_false_iff_ne.mpr c127
                        have c127b1 : ((wrap64 (t237 + 1)) != 0) = true := bne_iff_ne.mpr c127
                        by_cases c128 : (Int.tmod (wrap64 ((Int.tmod (wrap64 (x40_6 - (rd t251 t241))) (wrap64 (t237 + 1))) + (wrap64 (t237 + 1)))) (wrap64 (t237 + 1))) = 0
                        ·rw [if_pos c128] at H
                         have c128b0 : ((Int.tmod (wrap64 ((Int.tmod (wrap64 (x40_6 - (rd t251 t241))) (wrap64 (t237 + 1))) + (wrap64 (t237 + 1)))) (wrap64 (t237 + 1))) == 0) = true := beq_iff_eq.mpr c128
                         have c128b1 : ((Int.tmod (wrap64 ((Int.tmod (wrap64 (x40_6 - (rd t251 t241))) (wrap64 (t237 + 1))) + (wrap64 (t237 + 1)))) (wrap64 (t237 + 1))) != 0) = false := bne_eq_false_iff_eq.mpr c128
                         clear c128
                         have H' := Aside0.mk H
                         clear H
                         obtain ⟨Ao129, co129, eo129⟩ := Kd.R_slice HO_38.out
                         subst eo129
                         have p256 : 0 ≤ (t241 : Int) := of_decide_eq_true (by first | (with_reducible assumption) | assumption)
                         have q256 : t241 < (t251.length : Int) := of_decide_eq_true (by first | (with_reducible assumption) | assumption)
                         obtain ⟨ad256, e256, hx256_0⟩ := Kd.at_int (Kd.R_reads' HO_38.out).2.2 t241 p256 q256
                         cases e256
                         replace p256 := eq_true p256
                         replace q256 := eq_true q256
                         go_wp2
                         refine Fc.meet (by assumption) ?same ?rel
                         case same => kernel_rfl
                         case rel => exact ⟨_, H', ⟨by have := HJ11.out; have := HJ49.out; have := HJ100.out; have := HK4.out; have := HJ113.out; have := HK6.out; (try clear c127); first | omega | exact Nat.le_refl _⟩, ⟨by repeat (first | (with_reducible first | exact HB.out | apply bA_ | apply bN_ | apply bD_) | exact HB.out)⟩⟩
                        ·rw [if_neg c128] at H
                         have c128b0 : ((Int.tmod (wrap64 ((Int.tmod (wrap64 (x40_6 - (rd t251 t241))) (wrap64 (t237 + 1))) + (wrap64 (t237 + 1)))) (wrap64 (t237 + 1))) == 0) = false := beq_eq_false_iff_ne.mpr c128
                         have c128b1 : ((Int.tmod (wrap64 ((Int.tmod (wrap64 (x40_6 - (rd t251 t241))) (wrap64 (t237 + 1))) + (wrap64 (t237 + 1)))) (wrap64 (t237 + 1))) != 0) = true := bne_iff_ne.mpr c128
                         clear c128
                         obtain rfl := Option.some.inj H
                         obtain ⟨Ao130, co130, eo130⟩ := Kd.R_slice HO_38.out
                         subst eo130
                         have p256 : 0 ≤ (t241 : Int) := of_decide_eq_true (by first | (with_reducible assumption) | assumption)
                         have q256 : t241 < (t251.length : Int) := of_decide_eq_true (by first | (with_reducible assumption) | assumption)
                         obtain ⟨ad256, e256, hx256_0⟩ := Kd.at_int (Kd.R_reads' HO_38.out).2.2 t241 p256 q256
                         cases e256
                         replace p256 := eq_true p256
                         replace q256 := eq_true q256
                         go_wp2
                         go_ret
                         exact ⟨by first | rfl | (simp [errW_none, errW_some] <;> rfl) | (simp [*, errW_none, errW_some] <;> rfl), by repeat (first | (with_reducible first | exact HB.out | apply bA_ | apply bN_ | apply bD_) | exact HB.out)⟩
                      ·rw [if_neg c126] at H
                       exact absurd H (by simp)
                     ·rw [if_neg c125] at H
                      exact absurd H (by simp)
           ·replace c111 := Bool.eq_false_iff.mpr c111
            subst c111
            have H1 : (laws_FnTripsOfChips.j8 kj100 l1) = some r := by rw [if_neg (show ¬ (false = true) by decide)] at H; exact H
            clear H
            have H := H1
            clear H1
            have H' := Aside0.mk H
            clear H
            go_wp2
            refine Fc.meet (by assumption) ?same ?rel
            case same => kernel_rfl
            case rel => exact ⟨_, H', ⟨by have := HJ11.out; have := HJ49.out; have := HJ100.out; (try clear c127); first | omega | exact Nat.le_refl _⟩, ⟨by repeat (first | (with_reducible first | exact HB.out | apply bA_ | apply bN_ | apply bD_) | exact HB.out)⟩⟩
          case rest =>
           intro u5_ wc hcut
           (try dsimp only at hcut)
           dsimp only [cm3, Fc.blend]
           clear HC110
           try clear c1
           try clear c2
           try clear p2
           try clear q2
           try clear hx2
           try clear c3
           try clear c4
           try clear c5
           try clear c6
           try clear p6
           try clear c7
           try clear c8
           try clear c9
           try clear c10
           try clear c11
           try clear c12
           try clear c15
           try clear c20
           try clear c20b0
           try clear c20b1
           try clear c20b2
           try clear c22
           try clear c23
           try clear c23b0
           try clear c23b1
           try clear c23b2
           try clear p23
           try clear q23
           try clear hx23
           try clear c25
           try clear p25
           try clear q25
           try clear hx25
           try clear c26
           try clear c26b0
           try clear c26b1
           try clear c27
           try clear c27b0
           try clear c27b1
           try clear c27b2
           try clear c28
           try clear c29
           try clear c31
           try clear c32
           try clear c32b0
           try clear c32b1
           try clear c32b2
           try clear c35
           try clear c36
           try clear c37
           try clear c38
           try clear c39
           try clear c40
           try clear c45
           try clear c46
           try clear c49
           try clear c50
           try clear c51
           try clear c57
           try clear c58
           try clear c59
           try clear c59b0
           try clear c59b1
           try clear c61
           try clear c61b0
           try clear c61b1
           try clear c62
           try clear c62b0
           try clear c62b1
           try clear c63
           try clear c63b0
           try clear c64
           try clear c64b0
           try clear p64
           try clear c71
           try clear c74
           try clear c74b0
           try clear c74b1
           try clear c77
           try clear c77b0
           try clear c78
           try clear c78b0
           try clear c79
           try clear c79b0
           try clear c80
           try clear c80b0
           try clear c81
           try clear c81b0
           try clear c81b1
           try clear c82
           try clear c82b0
           try clear c84
           try clear c84b0
           try clear c84b1
           try clear c85
           try clear c85b0
           try clear c85b1
           try clear c86
           try clear c86b0
           try clear c86b1
           try clear c91
           try clear c91b0
           try clear c91b1
           try clear c92
           try clear c92b0
           try clear c92b1
           try clear c105
           try clear c105b0
           try clear c105b1
           try clear c105b2
           try clear c109
           try clear c111
           try clear c112
           try clear c112b0
           try clear c116
           try clear c118
           try clear c120
           try clear c120b0
           try clear c121
           try clear c121b0
           try clear c122
           try clear c122b0
           try clear c123
           try clear c123b0
           try clear c124
           try clear c124b0
           try clear c125
           try clear c125b0
           try clear c126
           try clear c126b0
           try clear c127
           try clear c127b0
           try clear c127b1
           try clear c128
           try clear c128b0
           try clear c128b1
           try clear hx230_0
           try clear hx233_0
           try clear hx234_0
           try clear hx235_0
           try clear hx236_0
           try clear hx255_0
           try clear hx256_0
           try clear p2
           try clear p23
           try clear p230
           try clear p233
           try clear p234
           try clear p235
           try clear p236
           try clear p255
           try clear p256
           try clear p6
           try clear p64
           try clear q2
           try clear q23
           try clear q230
           try clear q233
           try clear q234
           try clear q235
           try clear q236
           try clear q255
           try clear q256
           obtain ⟨kq, HA, HJ109, HB⟩ := hcut
           cases kq with
           | zero => exact absurd HA.out (by simp [laws_FnTripsOfChips.j8])
           | succ kj109 =>
            have H := HA.out
            clear HA
            simp only [laws_FnTripsOfChips.j8] at H
            replace H := Option.bind_eq_some_iff.mp H
            obtain ⟨⟨t257, t258, t259⟩, A1310, H⟩ := H
            replace H : ((impl_TurnedEscapes.f kj109 t257 t258 t259).bind fun bt260 => ((spec_TurnedEscapes.f t257 t258 t259).bind fun bt264 => (if (bt260.2 != bt264.2) = true then (laws_FnTripsOfChips.j9 kj109 t257 t258 t259 bt260.1 bt260.2 true) else ((laws_xSame.f kj109 bt260.1 bt264.1).bind fun t268 => (laws_FnTripsOfChips.j9 kj109 t257 t258 t259 bt260.1 bt260.2 (!t268)))))) = some r := H
            have A131 := Aside0.mk A1310
            clear A1310
            replace H := Option.bind_eq_some_iff.mp H
            obtain ⟨⟨t260, t261⟩, A1320, H⟩ := H
            replace H : ((spec_TurnedEscapes.f t257 t258 t259).bind fun bt264 => (if (t261 != bt264.2) = true then (laws_FnTripsOfChips.j9 kj109 t257 t258 t259 t260 t261 true) else ((laws_xSame.f kj109 t260 bt264.1).bind fun t268 => (laws_FnTripsOfChips.j9 kj109 t257 t258 t259 t260 t261 (!t268))))) = some r := H
            have A132 := Aside0.mk A1320
            clear A1320
            replace H := Option.bind_eq_some_iff.mp H
            obtain ⟨⟨t264, t265⟩, A1330, H⟩ := H
            replace H : (if (t261 != t265) = true then (laws_FnTripsOfChips.j9 kj109 t257 t258 t259 t260 t261 true) else ((laws_xSame.f kj109 t260 t264).bind fun t268 => (laws_FnTripsOfChips.j9 kj109 t257 t258 t259 t260 t261 (!t268)))) = some r := H
            have A133 := Aside0.mk A1330
            clear A1330
            have HC134 := Aside0.mk H
            clear H
            go_upto_region 52 with (first | ((with_reducible refine gate_callee (f := 51) rfl ?_); refine goesL_ (some 347) rfl rfl Try.func51 (by kernel_rfl) rfl #[.slice A1 l1.length c1] rfl (by (try simp only [List.map_toArray, List.map_cons, List.map_nil]); first | done | rfl | (simp only [List.length_drop, List.length_take]; rfl)) ?_; (with_reducible refine (spec_DrawTurnedEscapes.calls kj109 _ _ l1 t257 t258 t259 _ ?side1 ?side2 A131.out).mono ?_); (case side1 => repeat (first | exact (Kd.C_below HR1.out HB.out) | (with_reducible refine Kd.C_alloc ?_ _) | (with_reducible refine Kd.C_drewN ?_ _) | (with_reducible refine Kd.C_drew ?_))); (case side2 => exact HC1.out); rintro e w135 ⟨rfl, hb⟩; refine ⟨_, rfl, ?_⟩; have n0_ := Aside0.mk (bP_ (by repeat (first | (with_reducible first | exact HB.out | apply bA_ | apply bN_ | apply bD_) | exact HB.out)) hb); clear HB; have HB := n0_; clear n0_; (try clear hb); (try clear hb2); (try clear hk); (try clear hi)) | ((with_reducible refine gate_callee (f := 42) rfl ?_); refine goesL_ (some 355) rfl rfl Try.func42 (by kernel_rfl) rfl #[.int .i64 t257, .int .i64 t258, .int .i64 t259] rfl (by (try simp only [List.map_toArray, List.map_cons, List.map_nil]); first | done | rfl | (simp only [List.length_drop, List.length_take]; rfl)) ?_; (with_reducible refine (impl_TurnedEscapes.calls kj109 t257 t258 t259 t260 t261 _ A132.out).mono ?_); rintro e w136 ⟨v262, rfl, ho0, hb⟩; refine ⟨_, rfl, ?_⟩; have n0_ := Aside0.mk (Kd.R_lower ho0 (bZ_ (by repeat (first | (with_reducible first | exact HB.out | apply bA_ | apply bN_ | apply bD_) | exact HB.out)))); have n1_ := Aside0.mk (bP_ (by repeat (first | (with_reducible first | exact HB.out | apply bA_ | apply bN_ | apply bD_) | exact HB.out)) hb); clear HB; have HO263 := n0_; have HB := n1_; clear n0_ n1_; (try clear hb); (try clear hb2); (try clear hk); (try clear hi); (try clear ho0)) | ((with_reducible refine gate_callee (f := 41) rfl ?_); refine goesL_ (some 362) rfl rfl Try.func41 (by kernel_rfl) rfl #[.int .i64 t257, .int .i64 t258, .int .i64 t259] rfl (by (try simp only [List.map_toArray, List.map_cons, List.map_nil]); first | done | rfl | (simp only [List.length_drop, List.length_take]; rfl)) ?_; (with_reducible refine (spec_TurnedEscapes.calls t257 t258 t259 t264 t265 _ A133.out).mono ?_); rintro e w137 ⟨v266, rfl, ho0, hb⟩; refine ⟨_, rfl, ?_⟩; have n0_ := Aside0.mk (Kd.R_elder' (by (with_reducible repeat (first | apply Kd.R_alloc | apply Kd.R_drewN | apply Kd.R_drew)); exact HO263.out) (Kd.R_base ho0) hb); have n1_ := Aside0.mk (Kd.R_lower (Kd.R_new' ho0 (Kd.R_lt (by (with_reducible repeat (first | apply Kd.R_alloc | apply Kd.R_drewN | apply Kd.R_drew)); exact HO263.out))) (bZ_ (by repeat (first | (with_reducible first | exact HB.out | apply bA_ | apply bN_ | apply bD_) | exact HB.out)))); have n2_ := Aside0.mk (bP_ (by repeat (first | (with_reducible first | exact HB.out | apply bA_ | apply bN_ | apply bD_) | exact HB.out)) hb); clear HO263; clear HB; have HO263 := n0_; have HO267 := n1_; have HB := n2_; clear n0_ n1_ n2_; (try clear hb); (try clear hb2); (try clear hk); (try clear hi); (try clear ho0)))
            (try simp only [Act.put, List.setIfInBounds_toArray, List.set_cons_zero, List.set_cons_succ])
            apply Fc.cut cm0 cm0_ok (fun u_ wc => ∃ (kq : Nat) (x373_133 : Bool), (u_ 373) = .bool x373_133 ∧ Aside0 (laws_FnTripsOfChips.j9 kq t257 t258 t259 t260 t261 x373_133 = some r) ∧ Aside0 (kq ≤ kj109) ∧ Aside0 (Kd.R (Kd.int .i64) 3 wc w.heap.size (fun _ => True) v262 t260) ∧ Aside0 (Below w.heap.size w wc))
            case first =>
             intro _ _ _ _
             have H := HC134.out
             clear HC134
             by_cases c138 : (t261 != t265) = true
             ·rw [if_pos c138] at H
              have c138b0 : (t261 != t265) = true := c138
              (try (have c138b1 : decide (t261 = t265) = false := by simpa using c138))
              (try (have c138b2 : (t261 == t265) = false := by simpa using c138))
              (try (have c138b3 : ¬ (t261 = t265) := by simpa using c138))
              clear c138
              (first | rw [c138b0] | (simp only [i64_w, i32_w]; rw [c138b0]) | skip)
              have H' := Aside0.mk H
              clear H
              go_wp2
              refine Fc.meet (by assumption) ?same ?rel
              case same => kernel_rfl
              case rel => exact ⟨_, (true), (by first | rfl | (simp; done) | (simp [*]; done)), H', ⟨by have := HJ11.out; have := HJ49.out; have := HJ100.out; have := HJ109.out; (try clear c127); first | omega | exact Nat.le_refl _⟩, ⟨by (with_reducible repeat (first | apply Kd.R_alloc | apply Kd.R_drewN | apply Kd.R_drew)); exact Kd.R_mono HO263.out (fun _ hk => trivial)⟩, ⟨by repeat (first | (with_reducible first | exact HB.out | apply bA_ | apply bN_ | apply bD_) | exact HB.out)⟩⟩
             ·rw [if_neg c138] at H
              have c138b0 : (t261 != t265) = false := by simpa using c138
              (try (have c138b1 : decide (t261 = t265) = true := by simpa using c138))
              (try (have c138b2 : (t261 == t265) = true := by simpa using c138))
              clear c138
              (first | rw [c138b0] | (simp only [i64_w, i32_w]; rw [c138b0]) | skip)
              replace H := Option.bind_eq_some_iff.mp H
              obtain ⟨t268, A1390, H⟩ := H
              replace H : (laws_FnTripsOfChips.j9 kj109 t257 t258 t259 t260 t261 (!t268)) = some r := H
              have A139 := Aside0.mk A1390
              clear A1390
              have H' := Aside0.mk H
              clear H
              obtain ⟨Ao140, co140, eo140⟩ := Kd.R_slice HO263.out
              subst eo140
              obtain ⟨Ao141, co141, eo141⟩ := Kd.R_slice HO267.out
              subst eo141
              go_wp2_with (first | (go_at_call 47; (with_reducible refine (laws_xSame.calls kj109 _ _ t260 _ _ t264 t268 _ ?side1 ?side2 ?side3 ?side4 A139.out).mono ?_); (case side1 => repeat (first | exact (Kd.R_reads' HO263.out).2.2 | (with_reducible refine Kd.C_alloc ?_ _) | (with_reducible refine Kd.C_drewN ?_ _) | (with_reducible refine Kd.C_drew ?_))); (case side2 => exact (Kd.R_reads' HO263.out).2.1); (case side3 => repeat (first | exact (Kd.R_reads' HO267.out).2.2 | (with_reducible refine Kd.C_alloc ?_ _) | (with_reducible refine Kd.C_drewN ?_ _) | (with_reducible refine Kd.C_drew ?_))); (case side4 => exact (Kd.R_reads' HO267.out).2.1); rintro e w' ⟨rfl, ⟨nd, rfl⟩⟩))
              refine Fc.meet (by assumption) ?same ?rel
              case same => kernel_rfl
              case rel => exact ⟨_, (!t268), (by first | rfl | (simp; done) | (simp [*]; done)), H', ⟨by have := HJ11.out; have := HJ49.out; have := HJ100.out; have := HJ109.out; (try clear c127); first | omega | exact Nat.le_refl _⟩, ⟨by (with_reducible repeat (first | apply Kd.R_alloc | apply Kd.R_drewN | apply Kd.R_drew)); exact Kd.R_mono HO263.out (fun _ hk => trivial)⟩, ⟨by repeat (first | (with_reducible first | exact HB.out | apply bA_ | apply bN_ | apply bD_) | exact HB.out)⟩⟩
            case rest =>
             intro u9_ wc hcut
             (try dsimp only at hcut)
             dsimp only [cm0, Fc.blend]
             generalize u9_ 373 = v373 at hcut ⊢
             clear HC134
             try clear c1
             try clear c2
             try clear p2
             try clear q2
             try clear hx2
             try clear c3
             try clear c4
             try clear c5
             try clear c6
             try clear p6
             try clear c7
             try clear c8
             try clear c9
             try clear c10
             try clear c11
             try clear c12
             try clear c13
             try clear c15
             try clear c20
             try clear c20b0
             try clear c20b1
             try clear c20b2
             try clear c22
             try clear c23
             try clear c23b0
             try clear c23b1
             try clear c23b2
             try clear p23
             try clear q23
             try clear hx23
             try clear c25
             try clear p25
             try clear q25
             try clear hx25
             try clear c26
             try clear c26b0
             try clear c26b1
             try clear c27
             try clear c27b0
             try clear c27b1
             try clear c27b2
             try clear c28
             try clear c29
             try clear c31
             try clear c32
             try clear c32b0
             try clear c32b1
             try clear c32b2
             try clear c35
             try clear c36
             try clear c37
             try clear c38
             try clear c39
             try clear c40
             try clear c41
             try clear c42
             try clear c45
             try clear c46
             try clear c49
             try clear c50
             try clear c51
             try clear c57
             try clear c58
             try clear c59
             try clear c59b0
             try clear c59b1
             try clear c61
             try clear c61b0
             try clear c61b1
             try clear c62
             try clear c62b0
             try clear c62b1
             try clear c63
             try clear c63b0
             try clear c64
             try clear c64b0
             try clear p64
             try clear c71
             try clear c74
             try clear c74b0
             try clear c74b1
             try clear c77
             try clear c77b0
             try clear c78
             try clear c78b0
             try clear c79
             try clear c79b0
             try clear c80
             try clear c80b0
             try clear c81
             try clear c81b0
             try clear c81b1
             try clear c82
             try clear c82b0
             try clear c84
             try clear c84b0
             try clear c84b1
             try clear c85
             try clear c85b0
             try clear c85b1
             try clear c86
             try clear c86b0
             try clear c86b1
             try clear c91
             try clear c91b0
             try clear c91b1
             try clear c92
             try clear c92b0
             try clear c92b1
             try clear c105
             try clear c105b0
             try clear c105b1
             try clear c105b2
             try clear c109
             try clear c111
             try clear c112
             try clear c112b0
             try clear c116
             try clear c118
             try clear c120
             try clear c120b0
             try clear c121
             try clear c121b0
             try clear c122
             try clear c122b0
             try clear c123
             try clear c123b0
             try clear c124
             try clear c124b0
             try clear c125
             try clear c125b0
             try clear c126
             try clear c126b0
             try clear c127
             try clear c127b0
             try clear c127b1
             try clear c128
             try clear c128b0
             try clear c128b1
             try clear c138
             try clear c138b0
             try clear c138b1
             try clear c138b2
             try clear hx230_0
             try clear hx233_0
             try clear hx234_0
             try clear hx235_0
             try clear hx236_0
             try clear hx255_0
             try clear hx256_0
             try clear p2
             try clear p23
             try clear p230
             try clear p233
             try clear p234
             try clear p235
             try clear p236
             try clear p25
             try clear p255
             try clear p256
             try clear p6
             try clear p64
             try clear q2
             try clear q23
             try clear q230
             try clear q233
             try clear q234
             try clear q235
             try clear q236
             try clear q25
             try clear q255
             try clear q256
             obtain ⟨kq, x373_133, rfl, HA, HJ133, HO_46, HB⟩ := hcut
             cases kq with
             | zero => exact absurd HA.out (by simp [laws_FnTripsOfChips.j9])
             | succ kj133 =>
              have H := HA.out
              clear HA
              simp only [laws_FnTripsOfChips.j9] at H
              by_cases c142 : x373_133 = true
              ·subst c142
               have H1 : (some false) = some r := by rw [if_pos rfl] at H; exact H
               clear H
               have H := H1
               clear H1
               obtain rfl := Option.some.inj H
               go_wp2
               go_ret
               exact ⟨by first | rfl | (simp [errW_none, errW_some] <;> rfl) | (simp [*, errW_none, errW_some] <;> rfl), by repeat (first | (with_reducible first | exact HB.out | apply bA_ | apply bN_ | apply bD_) | exact HB.out)⟩
              ·replace c142 := Bool.eq_false_iff.mpr c142
               subst c142
               have H1 : (if t261 = true then (laws_FnTripsOfChips.l3 kj133 t257 t258 t259 t260 (t260.length : Int) 0) else (some true)) = some r := by rw [if_neg (show ¬ (false = true) by decide)] at H; exact H
               clear H
               have H := H1
               clear H1
               by_cases c143 : t261 = true
               ·subst c143
                have H1 : (laws_FnTripsOfChips.l3 kj133 t257 t258 t259 t260 (t260.length : Int) 0) = some r := by rw [if_pos rfl] at H; exact H
                clear H
                have H := H1
                clear H1
                have H' := Aside0.mk H
                clear H
                obtain ⟨Ao144, co144, eo144⟩ := Kd.R_slice HO_46.out
                subst eo144
                go_wp2
                apply Fc.loop cm6 cm6_ok (fun kq u_ w' => ∃ (x377_6 : Int), (u_ 377) = .int .i64 x377_6 ∧ Aside0 (laws_FnTripsOfChips.l3 kq t257 t258 t259 t260 (t260.length : Int) x377_6 = some r) ∧ Aside0 (kq ≤ kj133) ∧ Aside0 (Kd.R (Kd.int .i64) 3 w' w.heap.size (fun _ => True) (.slice Ao144 t260.length co144) t260) ∧ Aside0 (Below w.heap.size w w')) kj133
                case atStart => exact ⟨(0), (by first | rfl | (simp; done) | (simp [*]; done)), H', ⟨Nat.le_refl _⟩, ⟨by (with_reducible repeat (first | apply Kd.R_alloc | apply Kd.R_drewN | apply Kd.R_drew)); exact HO_46.out⟩, ⟨by repeat (first | (with_reducible first | exact HB.out | apply bA_ | apply bN_ | apply bD_) | exact HB.out)⟩⟩
                case round =>
                 intro gk u10_ wr hrel _ _ _ _
                 (try dsimp only at hrel)
                 dsimp only [cm6, Fc.blend]
                 generalize u10_ 377 = v377 at hrel ⊢
                 clear H'
                 try clear c1
                 try clear c2
                 try clear p2
                 try clear q2
                 try clear hx2
                 try clear c3
                 try clear c4
                 try clear c5
                 try clear c6
                 try clear p6
                 try clear c7
                 try clear c8
                 try clear c9
                 try clear c10
                 try clear c11
                 try clear c12
                 try clear c13
                 try clear c14
                 try clear c15
                 try clear c20
                 try clear c20b0
                 try clear c20b1
                 try clear c20b2
                 try clear c22
                 try clear c23
                 try clear c23b0
                 try clear c23b1
                 try clear c23b2
                 try clear p23
                 try clear q23
                 try clear hx23
                 try clear c25
                 try clear p25
                 try clear q25
                 try clear hx25
                 try clear c26
                 try clear c26b0
                 try clear c26b1
                 try clear c27
                 try clear c27b0
                 try clear c27b1
                 try clear c27b2
                 try clear c28
                 try clear c29
                 try clear c31
                 try clear c32
                 try clear c32b0
                 try clear c32b1
                 try clear c32b2
                 try clear c35
                 try clear c36
                 try clear c37
                 try clear c38
                 try clear c39
                 try clear c40
                 try clear c41
                 try clear c42
                 try clear c45
                 try clear c46
                 try clear c49
                 try clear c50
                 try clear c51
                 try clear c57
                 try clear c58
                 try clear c59
                 try clear c59b0
                 try clear c59b1
                 try clear c61
                 try clear c61b0
                 try clear c61b1
                 try clear c62
                 try clear c62b0
                 try clear c62b1
                 try clear c63
                 try clear c63b0
                 try clear c64
                 try clear c64b0
                 try clear p64
                 try clear c71
                 try clear c74
                 try clear c74b0
                 try clear c74b1
                 try clear c77
                 try clear c77b0
                 try clear c78
                 try clear c78b0
                 try clear c79
                 try clear c79b0
                 try clear c80
                 try clear c80b0
                 try clear c81
                 try clear c81b0
                 try clear c81b1
                 try clear c82
                 try clear c82b0
                 try clear c84
                 try clear c84b0
                 try clear c84b1
                 try clear c85
                 try clear c85b0
                 try clear c85b1
                 try clear c86
                 try clear c86b0
                 try clear c86b1
                 try clear c91
                 try clear c91b0
                 try clear c91b1
                 try clear c92
                 try clear c92b0
                 try clear c92b1
                 try clear c105
                 try clear c105b0
                 try clear c105b1
                 try clear c105b2
                 try clear c109
                 try clear c111
                 try clear c112
                 try clear c112b0
                 try clear c116
                 try clear c118
                 try clear c120
                 try clear c120b0
                 try clear c121
                 try clear c121b0
                 try clear c122
                 try clear c122b0
                 try clear c123
                 try clear c123b0
                 try clear c124
                 try clear c124b0
                 try clear c125
                 try clear c125b0
                 try clear c126
                 try clear c126b0
                 try clear c127
                 try clear c127b0
                 try clear c127b1
                 try clear c128
                 try clear c128b0
                 try clear c128b1
                 try clear c138
                 try clear c138b0
                 try clear c138b1
                 try clear c138b2
                 try clear c142
                 try clear c143
                 try clear hx230_0
                 try clear hx233_0
                 try clear hx234_0
                 try clear hx235_0
                 try clear hx236_0
                 try clear hx255_0
                 try clear hx256_0
                 try clear p2
                 try clear p23
                 try clear p230
                 try clear p233
                 try clear p234
                 try clear p235
                 try clear p236
                 try clear p25
                 try clear p255
                 try clear p256
                 try clear p6
                 try clear p64
                 try clear q2
                 try clear q23
                 try clear q230
                 try clear q233
                 try clear q234
                 try clear q235
                 try clear q236
                 try clear q25
                 try clear q255
                 try clear q256
                 obtain ⟨x377_6, rfl, HA, HK6, HO_375, HB⟩ := hrel
                 cases gk with
                 | zero => exact absurd HA.out (by simp [laws_FnTripsOfChips.l3])
                 | succ k6 =>
                  have H := HA.out
                  clear HA
                  simp only [laws_FnTripsOfChips.l3] at H
                  by_cases c145 : x377_6 < (t260.length : Int)
                  ·rw [if_pos c145] at H
                   have c145b0 : decide (x377_6 < (t260.length : Int)) = true := decide_eq_true c145
                   clear c145
                   by_cases c146 : 0 ≤ x377_6
                   ·rw [if_pos c146] at H
                    have c146b0 : decide (0 ≤ x377_6) = true := decide_eq_true c146
                    clear c146
                    by_cases c147 : x377_6 < (t260.length : Int)
                    ·rw [if_pos c147] at H
                     have c147b0 : decide (x377_6 < (t260.length : Int)) = true := decide_eq_true c147
                     clear c147
                     replace H := Option.bind_eq_some_iff.mp H
                     obtain ⟨⟨t270, t271⟩, A1480, H⟩ := H
                     replace H : (if t271 = true then (if t270 = (rd t260 x377_6) then (laws_FnTripsOfChips.l3 k6 t257 t258 t259 t260 (t260.length : Int) (wrap64 (x377_6 + 1))) else (some false)) else (some false)) = some r := H
                     have A148 := Aside0.mk A1480
                     clear A1480
                     by_cases c149 : t271 = true
                     ·subst c149
                      have H1 : (if t270 = (rd t260 x377_6) then (laws_FnTripsOfChips.l3 k6 t257 t258 t259 t260 (t260.length : Int) (wrap64 (x377_6 + 1))) else (some false)) = some r := by rw [if_pos rfl] at H; exact H
                      clear H
                      have H := H1
                      clear H1
                      by_cases c150 : t270 = (rd t260 x377_6)
                      ·rw [if_pos c150] at H
                       have c150b0 : (t270 == (rd t260 x377_6)) = true := beq_iff_eq.mpr c150
                       have c150b1 : (t270 != (rd t260 x377_6)) = false := bne_eq_false_iff_eq.mpr c150
                       clear c150
                       have H' := Aside0.mk H
                       clear H
                       have p269 : 0 ≤ (x377_6 : Int) := of_decide_eq_true (by first | (with_reducible assumption) | assumption)
                       have q269 : x377_6 < (t260.length : Int) := of_decide_eq_true (by first | (with_reducible assumption) | assumption)
                       obtain ⟨ad269, e269, hx269_0⟩ := Kd.at_int (Kd.R_reads' HO_375.out).2.2 x377_6 p269 q269
                       cases e269
                       replace p269 := eq_true p269
                       replace q269 := eq_true q269
                       go_wp2_with (first | ((with_reducible refine gate_callee (f := 25) rfl ?_); refine goesL_ (some 387) rfl rfl Try.func25 (by kernel_rfl) rfl #[.int .i64 t257, .int .i64 t258, .int .i64 x377_6, .int .i64 t259] rfl (by (try simp only [List.map_toArray, List.map_cons, List.map_nil]); first | done | rfl | (simp only [List.length_drop, List.length_take]; rfl)) ?_; (with_reducible refine (impl_EscapesOf.calls k6 t257 t258 x377_6 t259 t270 true _ A148.out).mono ?_); rintro e w151 ⟨rfl, hb⟩; refine ⟨_, rfl, ?_⟩; have n0_ := Aside0.mk (Kd.R_below (by (with_reducible repeat (first | apply Kd.R_alloc | apply Kd.R_drewN | apply Kd.R_drew)); exact HO_375.out) hb); have n1_ := Aside0.mk (bP_ (by repeat (first | (with_reducible first | exact HB.out | apply bA_ | apply bN_ | apply bD_) | exact HB.out)) hb); clear HO_375; clear HB; have HO_375 := n0_; have HB := n1_; clear n0_ n1_; (try clear hb); (try clear hb2); (try clear hk); (try clear hi)))
                       refine Fc.hand k6 (by assumption) ?same ?measure ?rel
                       case same => kernel_rfl
                       case measure => have := HJ11.out; have := HJ49.out; have := HJ100.out; have := HJ109.out; have := HJ133.out; have := HK6.out; omega
                       case rel => exact ⟨(wrap64 (x377_6 + 1)), (by first | rfl | (simp; done) | (simp [*]; done)), H', ⟨by have := HJ11.out; have := HJ49.out; have := HJ100.out; have := HJ109.out; have := HJ133.out; have := HK6.out; (try clear c127); omega⟩, ⟨by (with_reducible repeat (first | apply Kd.R_alloc | apply Kd.R_drewN | apply Kd.R_drew)); exact HO_375.out⟩, ⟨by repeat (first | (with_reducible first | exact HB.out | apply bA_ | apply bN_ | apply bD_) | exact HB.out)⟩⟩
                      ·rw [if_neg c150] at H
                       have c150b0 : (t270 == (rd t260 x377_6)) = false := beq_eq_false_iff_ne.mpr c150
                       have c150b1 : (t270 != (rd t260 x377_6)) = true := bne_iff_ne.mpr c150
                       obtain rfl := Option.some.inj H
                       have p269 : 0 ≤ (x377_6 : Int) := of_decide_eq_true (by first | (with_reducible assumption) | assumption)
                       have q269 : x377_6 < (t260.length : Int) := of_decide_eq_true (by first | (with_reducible assumption) | assumption)
                       obtain ⟨ad269, e269, hx269_0⟩ := Kd.at_int (Kd.R_reads' HO_375.out).2.2 x377_6 p269 q269
                       cases e269
                       replace p269 := eq_true p269
                       replace q269 := eq_true q269
                       go_wp2_with (first | ((with_reducible refine gate_callee (f := 25) rfl ?_); refine goesL_ (some 387) rfl rfl Try.func25 (by kernel_rfl) rfl #[.int .i64 t257, .int .i64 t258, .int .i64 x377_6, .int .i64 t259] rfl (by (try simp only [List.map_toArray, List.map_cons, List.map_nil]); first | done | rfl | (simp only [List.length_drop, List.length_take]; rfl)) ?_; (with_reducible refine (impl_EscapesOf.calls k6 t257 t258 x377_6 t259 t270 true _ A148.out).mono ?_); rintro e w152 ⟨rfl, hb⟩; refine ⟨_, rfl, ?_⟩; have n0_ := Aside0.mk (Kd.R_below (by (with_reducible repeat (first | apply Kd.R_alloc | apply Kd.R_drewN | apply Kd.R_drew)); exact HO_375.out) hb); have n1_ := Aside0.mk (bP_ (by repeat (first | (with_reducible first | exact HB.out | apply bA_ | apply bN_ | apply bD_) | exact HB.out)) hb); clear HO_375; clear HB; have HO_375 := n0_; have HB := n1_; clear n0_ n1_; (try clear hb); (try clear hb2); (try clear hk); (try clear hi)))
                       go_ret
                       exact ⟨by first | rfl | (simp [errW_none, errW_some] <;> rfl) | (simp [*, errW_none, errW_some] <;> rfl), by repeat (first | (with_reducible first | exact HB.out | apply bA_ | apply bN_ | apply bD_) | exact HB.out)⟩
                     ·replace c149 := Bool.eq_false_iff.mpr c149
                      subst c149
                      have H1 : (some false) = some r := by rw [if_neg (show ¬ (false = true) by decide)] at H; exact H
                      clear H
                      have H := H1
                      clear H1
                      obtain rfl := Option.some.inj H
                      have p269 : 0 ≤ (x377_6 : Int) := of_decide_eq_true (by first | (with_reducible assumption) | assumption)
                      have q269 : x377_6 < (t260.length : Int) := of_decide_eq_true (by first | (with_reducible assumption) | assumption)
                      obtain ⟨ad269, e269, hx269_0⟩ := Kd.at_int (Kd.R_reads' HO_375.out).2.2 x377_6 p269 q269
                      cases e269
                      replace p269 := eq_true p269
                      replace q269 := eq_true q269
                      go_wp2_with (first | ((with_reducible refine gate_callee (f := 25) rfl ?_); refine goesL_ (some 387) rfl rfl Try.func25 (by kernel_rfl) rfl #[.int .i64 t257, .int .i64 t258, .int .i64 x377_6, .int .i64 t259] rfl (by (try simp only [List.map_toArray, List.map_cons, List.map_nil]); first | done | rfl | (simp only [List.length_drop, List.length_take]; rfl)) ?_; (with_reducible refine (impl_EscapesOf.calls k6 t257 t258 x377_6 t259 t270 false _ A148.out).mono ?_); rintro e w153 ⟨rfl, hb⟩; refine ⟨_, rfl, ?_⟩; have n0_ := Aside0.mk (Kd.R_below (by (with_reducible repeat (first | apply Kd.R_alloc | apply Kd.R_drewN | apply Kd.R_drew)); exact HO_375.out) hb); have n1_ := Aside0.mk (bP_ (by repeat (first | (with_reducible first | exact HB.out | apply bA_ | apply bN_ | apply bD_) | exact HB.out)) hb); clear HO_375; clear HB; have HO_375 := n0_; have HB := n1_; clear n0_ n1_; (try clear hb); (try clear hb2); (try clear hk); (try clear hi)))
                      go_ret
                      exact ⟨by first | rfl | (simp [errW_none, errW_some] <;> rfl) | (simp [*, errW_none, errW_some] <;> rfl), by repeat (first | (with_reducible first | exact HB.out | apply bA_ | apply bN_ | apply bD_) | exact HB.out)⟩
                    ·rw [if_neg c147] at H
                     exact absurd H (by simp)
                   ·rw [if_neg c146] at H
                    exact absurd H (by simp)
                  ·rw [if_neg c145] at H
                   have c145b0 : decide (x377_6 < (t260.length : Int)) = false := decide_eq_false c145
                   clear c145
                   obtain rfl := Option.some.inj H
                   go_wp2
                   go_ret
                   exact ⟨by first | rfl | (simp [errW_none, errW_some] <;> rfl) | (simp [*, errW_none, errW_some] <;> rfl), by repeat (first | (with_reducible first | exact HB.out | apply bA_ | apply bN_ | apply bD_) | exact HB.out)⟩
               ·replace c143 := Bool.eq_false_iff.mpr c143
                subst c143
                have H1 : (some true) = some r := by rw [if_neg (show ¬ (false = true) by decide)] at H; exact H
                clear H
                have H := H1
                clear H1
                obtain rfl := Option.some.inj H
                go_wp2
                go_ret
                exact ⟨by first | rfl | (simp [errW_none, errW_some] <;> rfl) | (simp [*, errW_none, errW_some] <;> rfl), by repeat (first | (with_reducible first | exact HB.out | apply bA_ | apply bN_ | apply bD_) | exact HB.out)⟩
def laws_FnTripsOfChips.Pure : Prop := ∀ (l0 : List Int) (l1 : List Int), l0.length ≤ maxLen → l0.length * 1 ≤ 140737488351232 → (∀ x ∈ l0, (Lit.int .u8 x).wf = true) → l1.length ≤ maxLen → l1.length * 1 ≤ 140737488351232 → (∀ x ∈ l1, (Lit.int .u8 x).wf = true) → ∃ k, laws_FnTripsOfChips.f k l0 l1 = some true
theorem laws_FnTripsOfChips.walk (P : laws_FnTripsOfChips.Pure) (a0 : Option Addr) (len0 cap0 : Nat) (z0 : List Int) (a1 : Option Addr) (len1 cap1 : Nat) (z1 : List Int) (w : World) (w0 : (a0 = none ∧ len0 = 0 ∧ cap0 = 0 ∧ z0 = []) ∨ ∃ x, a0 = some x ∧ len0 ≤ cap0 ∧ cap0 ≤ maxLen ∧ z0.length = cap0 ∧ (∀ i, i < z0.length → w.cell? (x.add i) = some (.int .u8 (z0.getD i 0))) ∧ ∀ n ∈ z0, (Lit.int .u8 n).wf = true) (y0 : len0 * 1 ≤ 140737488351232) (w1 : (a1 = none ∧ len1 = 0 ∧ cap1 = 0 ∧ z1 = []) ∨ ∃ x, a1 = some x ∧ len1 ≤ cap1 ∧ cap1 ≤ maxLen ∧ z1.length = cap1 ∧ (∀ i, i < z1.length → w.cell? (x.add i) = some (.int .u8 (z1.getD i 0))) ∧ ∀ n ∈ z1, (Lit.int .u8 n).wf = true) (y1 : len1 * 1 ≤ 140737488351232) :
  Calls Try.prog 15 #[.slice a0 len0 cap0, .slice a1 len1 cap1] w fun e w' => e = .returned (.bool true) ∧ Below w.heap.size w w' := by
 obtain ⟨l0, rfl, hr0, hm0, hw0, hc0⟩ := ReadsInt.ofRowC w0
 obtain ⟨l1, rfl, hr1, hm1, hw1, hc1⟩ := ReadsInt.ofRowC w1
 obtain ⟨k, h⟩ := P l0 l1 hm0 y0 hw0 hm1 y1 hw1
 refine (laws_FnTripsOfChips.calls k _ _ l0 _ _ l1 true w (Kd.C_of_reads (d := (0 : Int)) (h1 := fun _ => rfl) hr0) hc0 (Kd.C_of_reads (d := (0 : Int)) (h1 := fun _ => rfl) hr1) hc1 h).mono ?_
 rintro e w' ⟨rfl, hd⟩
 exact ⟨rfl, hd⟩
end Go.Proofs.Ytmechelmnpoddaa.F9
