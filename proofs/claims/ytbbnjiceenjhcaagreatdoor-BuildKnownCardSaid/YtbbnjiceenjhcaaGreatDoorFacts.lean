/-
  The closed facts of the row of BuildKnown, each by itself. No condition.
-/
import Derived.Test.YtbbnjiceenjhcaaGreatDoorRows
import Derived.Test.YtbbnjiceenjhcaaGreatDoorChecked
import Derived.ProofKit
import Derived.Test.YtbbnjiceenjhcaaGreatDoorTwBig
set_option linter.all false
namespace Go.Proofs.YtbbnjiceenjhcaaGreatDoor
open Go.ChangeShapes Go.WideShapes Go.ChangeAt Go.RowKit

set_option maxRecDepth 1000000 in
theorem buildKnown_fact0 : (Rows.buildKnownRow.wf (OpenSpec.ofChange Rows.buildKnownSpec)) = true := by kernel_rfl
theorem all_split {p : Nat → Bool} {a m n : Nat} (h1 : (List.range' a m).all p = true) (h2 : (List.range' (a + m) n).all p = true) : (List.range' a (m + n)).all p = true := by
  rw [← List.range'_append_1, List.all_append, h1, h2]; rfl
set_option maxRecDepth 1000000 in
theorem rows0 : (List.range' 0 150).all (rowFine Tryz.prog) = true := by kernel_rfl
set_option maxRecDepth 1000000 in
theorem rows1 : (List.range' 150 150).all (rowFine Tryz.prog) = true := by kernel_rfl
set_option maxRecDepth 1000000 in
theorem rows2 : (List.range' 300 150).all (rowFine Tryz.prog) = true := by kernel_rfl
set_option maxRecDepth 1000000 in
theorem rows3 : (List.range' 450 150).all (rowFine Tryz.prog) = true := by kernel_rfl
set_option maxRecDepth 1000000 in
theorem rows4 : (List.range' 600 150).all (rowFine Tryz.prog) = true := by kernel_rfl
set_option maxRecDepth 1000000 in
theorem rows5 : (List.range' 750 67).all (rowFine Tryz.prog) = true := by kernel_rfl
theorem typesN : Tryz.prog.types.size = 817 := by kernel_rfl
theorem rowsAll : (List.range Tryz.prog.types.size).all (rowFine Tryz.prog) = true := by
  rw [typesN, List.range_eq_range']
  exact (all_split (a := 0) (m := 150) (n := 667) rows0 (all_split (a := 150) (m := 150) (n := 517) rows1 (all_split (a := 300) (m := 150) (n := 367) rows2 (all_split (a := 450) (m := 150) (n := 217) rows3 (all_split (a := 600) (m := 150) (n := 67) rows4 rows5)))))
set_option maxRecDepth 1000000 in
theorem varsLt : Tryz.prog.globals.all (fun g => decide (g.type < Tryz.prog.types.size)) = true := by kernel_rfl
set_option maxRecDepth 1000000 in
theorem parsLt : Tryz.prog.funcs.toList.all (fun f => f.params.all fun t => decide (t < Tryz.prog.types.size)) = true := by kernel_rfl
theorem buildKnown_fact1 : (laidOutB Tryz.prog) = true := by
  unfold laidOutB
  rw [rowsAll, varsLt, ← Array.all_toList, parsLt]; rfl
set_option maxRecDepth 1000000 in
theorem buildKnown_fact2 : (mapsRowed Tryz.prog) = true := by kernel_rfl
set_option maxRecDepth 1000000 in
theorem buildKnown_fact3 : (Tryz.f3.params.all (Tryz.prog.readableRec ·)) = true := by kernel_rfl
set_option maxRecDepth 1000000 in
theorem buildKnown_fact4 : (namedTie Tryz.prog Rows.buildKnownRow.named Rows.buildKnownSpec.vars) = true := by kernel_rfl
set_option maxRecDepth 1000000 in
theorem buildKnown_fact5 : ((Rows.buildKnownRow.stops == [])) = true := by kernel_rfl
set_option maxRecDepth 1000000 in
theorem buildKnown_fact6 : ((Tryz.prog.stops == [])) = true := by kernel_rfl
set_option maxRecDepth 1000000 in
theorem buildKnown_fact7 : ((Rows.buildKnownRow.knobs == [])) = true := by kernel_rfl
set_option maxRecDepth 1000000 in
theorem buildKnown_fact8 : ((Tryz.prog.stopKnobs == [])) = true := by kernel_rfl
def eT0 : List (List Nat) := [[], [], [1], [4, 5, 6, 6], [5, 5], [7, 8], [7, 9, 10], [9, 11, 12, 13, 14, 15], [16, 17, 18, 18, 19], [20], [], [21, 23, 25, 27, 29, 32, 33, 34], [], [35, 33, 37, 38, 36, 39, 33, 34], [35], [40, 41], [42, 17, 43], [44], [45], [], [46, 48, 50, 52], [22], [54, 55, 56, 57], [24], [58, 59, 60, 61, 62], [26], [], [28], [63], [31, 30], [64, 65], [40], [], [66], [37, 67, 68, 32, 69], [], [70, 71], [40], [40], [70, 31, 66, 37, 38, 36, 72, 73, 74, 75, 76], [], [77, 78], [], [], [], [79], [47], [80, 81, 82], [49], [83, 84, 85, 86], [51, 12], [87, 88, 89], [53, 12], [54, 60, 90, 91, 92], [93], [58, 95, 95, 94, 96, 95, 95, 95, 95, 94], [97, 98, 99, 100, 101, 100, 58, 100], [102], [103], [60, 104, 105, 71], [], [106], [108, 107], [110, 111], [112], [113, 113, 114, 114, 115, 116, 117, 118, 119], [40], [120, 121, 122, 122], [123, 124, 125, 127, 126], [37, 123, 38, 128, 73, 129, 31, 64, 130, 131, 132, 134, 133, 135, 75, 136], [], [], [137, 138, 139], [40, 140], [141, 16], [141, 140, 142], [143, 144, 145, 146, 147, 148, 149, 150, 151, 152, 153, 154, 155, 156, 157, 158, 159, 160], [], [], [], [161, 162, 161], [], [163, 163, 164, 165, 166], [167, 168, 169, 170], [], [71], [171, 172, 173, 174, 175, 177, 176, 175, 175], [179, 178], [179, 178, 180, 181, 180, 181, 182, 181, 181, 183, 184], [], [185, 186, 187, 188, 189, 190, 191, 192, 96], [185, 187, 71, 192], [185, 193, 187, 194, 192], [195, 58, 196], [197], [198], [102], [100, 199], [99, 100, 199], [199, 200], [], [99, 99, 99, 98, 201, 100], [202, 203, 204, 205, 198], [206, 206, 206, 96, 207], [], [], [], [208, 209], [109], [210, 211, 212, 213, 214, 215], [], [], [], [216, 217], [216, 218], [], [217, 218], [219, 220, 221, 216, 217], [219, 222, 217], [223, 224, 225, 216, 217], [], [], [226], [227, 228], [229, 230, 231], [227, 228], [232, 233], [227, 234], [], [40], [232, 216], [232], [235], [237, 236], [232], [232], [141, 238], [239, 240, 203, 241, 242], [240], [141, 243, 244, 220], [245], [40, 62], [246], [136], [247], [248, 247], [248, 249, 247], [31, 248, 250, 220, 251, 249, 247], [248, 248, 31, 222, 251, 136], [129, 37, 252, 247], [247], [136], [248, 253], [248, 253], [122, 254], [248, 255], [256, 74, 247], [248, 257, 74, 136], [248, 74], [258, 248, 248, 224, 247], [248, 251, 159], [259, 260, 261, 260, 261, 262, 263], [264, 265, 266, 267, 268, 269], [270, 271], [272, 273, 275, 274, 276, 272, 163, 277, 278, 272, 272, 272, 167, 276], [279, 277, 278, 163, 280, 163, 281, 282, 279, 276, 283, 284, 163, 163, 272, 286, 285, 272, 287, 166], [276], [288, 289, 290], [291, 293, 292], [281, 294], [295, 176, 281, 296, 297], [174, 298, 175, 85, 299, 175, 300, 301, 175, 85, 301, 175, 85], [298, 302, 175, 301, 175, 305, 304, 303, 306, 175, 307, 175], [174, 308, 309, 310], [312, 311], [313], [314], [], [], [315], [316], [], [317, 182, 318, 319, 320, 321, 322, 323, 323, 324, 323, 324, 325, 325], [], [57], [58, 326], [327, 328, 329, 330], [57, 71, 331], [332, 333, 334, 334, 335], [203], [], [138], [57, 331], [327, 336], [337], [], [326, 338, 339], [], [340], [100, 60]]
set_option maxRecDepth 1000000 in
theorem meT0 : (Tryz.prog.funcs.toList.take 200).map Tryz.prog.leadsTo = eT0 := by kernel_rfl
def eT1 : List (List Nat) := [[340], [341], [207], [342], [], [], [], [239, 343, 240, 242, 344, 281, 203, 345], [346], [347, 348, 208, 349], [350], [], [352, 351], [60], [353, 354, 354], [40, 243, 244, 222], [], [218], [], [], [355, 356, 351], [340], [355, 357, 351], [], [358], [359, 359, 221, 221, 221, 224, 221], [], [360, 107], [], [326, 361, 362, 57], [363, 364, 365, 366, 366, 367], [363, 364], [], [368, 369, 370, 371, 372], [], [232], [], [], [], [], [203], [262], [373], [], [], [], [], [215, 136], [139], [250, 221, 250, 359], [], [74], [244], [136, 136], [141, 374, 238, 281, 139, 214, 215], [141, 215], [141, 375], [141, 376], [], [], [377], [378], [379], [], [], [380, 381], [], [380, 382, 383, 263, 384, 263], [259, 385, 263, 263, 263], [259, 386, 263], [], [387], [283, 279, 276], [270, 388, 276], [389], [], [], [283, 283, 273, 390, 389, 276, 391, 279, 276, 283, 283, 283, 283], [283, 163, 163, 272, 278, 272, 273, 283, 273, 276, 272], [270], [297, 276], [392], [], [163], [283, 393, 272, 166], [163, 283], [279, 277, 278, 280, 166], [279, 272, 163, 394, 272, 166], [281, 395], [388], [396], [80], [397], [291], [], [398, 399, 398, 400, 398, 401, 402, 403, 402, 404, 405, 406, 405, 407, 408, 409, 410, 401, 405, 409, 402, 401, 402, 409, 402, 409, 398, 409, 402, 409, 398, 409, 411, 409, 412, 409, 413, 409, 414, 409, 415, 409, 416, 409, 417, 409, 398, 401, 398, 409, 398, 409, 398, 401, 398, 409, 398, 409, 416, 401, 398, 401, 418, 401, 416, 401, 419, 409], [], [167, 288, 420], [422, 421], [316], [], [307, 423], [], [424, 175, 176, 423, 425, 307, 425, 85, 85], [302, 427, 426, 175, 425, 301, 175, 425], [428], [429, 430], [], [431, 175, 431], [175, 309], [175, 175, 175, 175, 432, 433], [], [], [], [], [297, 420], [297, 420], [434, 435], [436, 317, 323, 182, 325, 436, 323, 325, 182, 325], [436, 436, 436, 437, 325, 317, 323, 182, 323, 325, 182, 325, 317, 323, 182, 325, 317, 323, 182, 325, 182, 323, 325], [436, 317, 436, 436, 438, 181, 181, 323, 323, 182, 325], [317, 181, 181], [181, 317, 439, 181], [181], [436], [], [96, 440, 331, 441], [326, 440, 441, 331, 331, 330], [440, 331, 441, 330], [442, 443, 443], [444, 445], [203, 241], [446, 447], [446, 359, 221, 447], [446], [446, 446, 448, 224, 447], [], [449], [450, 451, 452], [453, 137], [], [454, 455, 203, 455, 204, 205, 455, 455, 202], [239, 456], [203, 457, 457, 458, 241], [], [], [], [459], [460], [462, 461], [463], [112, 464], [], [465], [], [], [200], [198], [466, 467, 468, 469, 471, 472, 473, 474, 475, 476, 477, 478, 479, 480, 481, 482, 483, 485, 486, 487], [340], [], [488], [207, 489, 490, 489, 491], [492], [493, 494], [], [], [371, 495, 372], [], [496, 497, 498, 499], [369], [495, 369], [369], [], [243], [501], [501], [502], [], [377, 503, 377, 504, 503, 505], [506], [507, 271], [261, 261, 508], [509], [510, 511], [512, 506, 506, 384], [513, 261], [], [514], [], [], [163], [], [515, 163, 516, 393, 517, 166], [279, 283, 283, 273, 272, 166, 283, 272, 166, 270, 163, 516, 272, 166, 391, 277, 278, 280, 284, 518], [], [420, 519, 520, 521, 519], [], [], [522]]
set_option maxRecDepth 1000000 in
theorem meT1 : ((Tryz.prog.funcs.toList.drop 200).take 200).map Tryz.prog.leadsTo = eT1 := by kernel_rfl
def eT2 : List (List Nat) := [[], [291], [523], [522], [522], [523], [522], [522], [523], [], [523, 524], [523, 524], [413, 523, 525], [523], [523], [523, 526, 281], [398, 402], [413], [523, 508], [523, 524], [527], [], [], [529], [423, 423, 307, 307, 176, 530, 530, 531], [532], [242], [533], [534, 535, 536, 537, 538, 539, 540, 541, 542, 543, 544, 545, 546, 547], [423, 548, 281], [438, 430, 438, 549, 430, 430, 550, 551, 552, 549], [], [553, 554, 555, 556, 557, 558, 559, 175, 175, 175, 433], [], [560, 561, 562, 563, 564, 565, 566, 566, 567, 568, 569, 570, 571, 571, 571, 572, 573, 574, 575, 575, 575, 575], [576, 181, 576, 181, 181, 317, 435, 181, 181], [], [], [529, 528, 221, 528, 359], [180], [57], [239], [577, 577], [], [579, 578], [], [], [], [], [], [], [], [], [327, 580, 581, 582, 583, 584, 585, 586], [], [200], [], [587, 588, 262], [589], [590, 591, 592, 593, 594], [595, 590, 596, 597, 592], [], [], [], [], [598], [], [], [], [470], [599], [470], [470], [], [], [], [], [], [], [], [], [], [], [484], [], [484], [484], [484], [], [], [600, 601, 489, 489], [602, 603, 604, 605, 606, 607, 608, 609, 610, 611, 612, 613, 614, 615, 616, 617, 618], [371, 619, 620, 619, 371], [], [621, 620, 366], [368], [], [], [], [500], [], [77], [], [], [], [622], [266, 264], [623], [624, 625, 626, 627], [628, 18, 629, 18, 19, 630, 631], [632, 632, 632, 632, 632, 632, 633], [634, 635, 636, 637], [], [623], [], [638, 283, 393, 272, 515, 517, 166], [], [], [279, 163, 287, 163, 639, 283, 640, 287, 641, 283, 640, 518, 283, 518, 641, 283, 163, 393, 272, 641, 283, 272, 641, 283, 272, 641, 283, 273, 272, 166, 642], [], [], [], [623, 271], [643, 629, 19], [644, 624, 625, 645, 626, 646, 627], [525], [], [290, 528], [], [], [307, 427, 300], [423], [85, 85], [71], [647, 438, 177, 532], [532], [648, 532, 298, 175, 532], [649, 305, 650, 305, 426, 175, 425, 651, 301, 175, 177, 425, 652], [305, 650], [651, 651, 301, 301, 175, 423, 423, 177, 425, 177, 425, 653, 175, 654, 654, 655, 656, 655, 657, 175, 658], [305, 651, 301, 175, 303, 425, 423, 175, 307, 657, 175, 427, 299, 177, 303, 655, 659, 654, 655, 660, 177, 303, 655], [651, 651, 651, 301, 301, 301, 175, 423, 423, 656, 661, 425], [177, 174, 177, 177, 177, 313, 175, 651, 303, 532], [651, 651, 657, 423, 175, 658, 652], [305, 304, 652, 175, 662, 175, 532], [651, 301, 175, 307, 307, 176, 425, 303], [305, 663, 175, 299, 177, 532], [299, 177, 532], [429], [], [664, 665], [664, 665, 665], [665, 665, 549], [305, 300, 304, 433], [310], [666, 432, 433], [666, 432, 666, 433], [305, 304, 654, 554, 433], [300, 175, 433, 651, 300, 175, 303, 433], [299, 175, 301, 175, 651, 303, 308, 85, 433], [438, 181], [181], [435, 667, 181], [435], [317], [317, 668], [669, 670], [669, 671, 181, 181, 181, 181, 181, 181], [669, 181, 181, 672], [669, 181, 181, 181], [317, 673], [436, 436, 317, 323, 317, 673, 323, 325, 317, 181, 181, 325], [435, 317, 439, 181, 181], [435, 317, 667, 181, 423, 668, 670, 668, 181, 181, 672, 439, 181, 181], [435, 423, 667, 181, 181, 181, 668, 439, 181, 181], [317, 181, 181, 181, 674, 181], [87], [], [675, 676, 677, 678, 679, 680, 442, 681, 682, 578, 578], [683, 684], [685], [], [686], [138], [], [], [687], [], [], [688, 689, 625, 690, 688], [], [], [], [], [691, 591, 692, 693, 591, 694, 695, 694, 693, 596, 592, 593], [], [], [696, 591, 697, 697], [], []]
set_option maxRecDepth 1000000 in
theorem meT2 : (((Tryz.prog.funcs.toList.drop 200).drop 200).take 200).map Tryz.prog.leadsTo = eT2 := by kernel_rfl
def eT3 : List (List Nat) := [[], [133], [], [698, 699], [700, 699], [700, 701, 489, 489, 699], [702, 700, 703, 489, 699], [700, 700, 703, 489], [698, 489, 699], [698, 699], [704], [700, 704], [700, 704], [490], [490], [490], [490], [490], [700, 700, 489, 490, 705, 489, 489, 489, 699], [], [495], [], [], [706, 707], [], [], [690], [708, 709], [45, 710], [45], [708, 711, 628, 18, 712, 713, 629, 712, 19], [714], [], [632, 632, 632, 632, 632, 632], [715], [715], [715, 717, 716], [715, 717, 716], [718], [516, 640, 518, 641, 518, 272, 640, 272, 641, 272, 642, 642, 642, 518, 641], [272, 393, 272], [166], [279, 163, 393, 272, 166], [], [], [690], [720, 709], [721], [722], [177, 532, 651, 654, 85, 655], [301, 307, 657, 175, 307, 427, 299, 532], [305, 304], [307, 530, 175, 427, 532], [656, 661, 307, 176, 175, 177, 655], [423, 175, 659, 177, 303], [532], [660, 177, 303, 303], [307, 427, 663], [427, 299, 423, 177, 303, 655, 176, 175, 177, 655], [529], [529, 529, 659, 659], [307, 424, 303, 307, 424, 175, 303], [167, 396, 723, 397, 724], [316], [], [224, 438], [305, 304, 301, 175], [423], [667, 181], [317, 317], [725, 671, 181, 668], [423], [181, 181], [181, 181], [89, 514], [442], [726, 726], [727, 728], [729, 729, 729, 730], [], [442, 442, 442], [442, 442], [442, 442, 442, 442], [], [], [731, 599], [], [], [260, 732, 260, 504, 503], [], [], [], [], [], [], [], [], [], [489, 489, 489, 698, 489, 489], [489], [489], [489, 489], [], [489, 489, 489, 489, 490], [], [], [], [733], [734], [688], [735], [], [45, 736], [], [737], [], [], [738], [719, 163, 516, 517, 166], [279, 163, 516, 163, 163, 391, 739, 166, 283, 163, 391, 272, 739, 740, 719, 166], [741, 708], [], [], [], [71], [], [442, 442], [579], [], [730], [742, 742, 742], [], [], [743, 744], [], [], [745], [746, 747], [748], [279, 277, 278, 280, 272], [749, 517, 283, 393, 272, 163, 516, 273, 163, 516, 166], [], [442], [], [], [], [], [], [750, 751, 752, 753], [270, 163, 640, 276, 283, 393, 285, 272, 166], [], [684, 754, 755], [], [756, 757], [], [], [], [758, 759], [], [], [], [], [], [], [], [], [], [], [], [], [], [], [], [], [], [], [], [], [], [717], [717, 717], [], [], [], [785], [], [462, 787], [], [], [], [], [], [], [], [], [], [], [], [], []]
set_option maxRecDepth 1000000 in
theorem meT3 : ((((Tryz.prog.funcs.toList.drop 200).drop 200).drop 200).take 200).map Tryz.prog.leadsTo = eT3 := by kernel_rfl
def eT4 : List (List Nat) := [[], [], [], [], [], [], [], [], [], [], [], [716, 716]]
set_option maxRecDepth 1000000 in
theorem meT4 : ((((Tryz.prog.funcs.toList.drop 200).drop 200).drop 200).drop 200).map Tryz.prog.leadsTo = eT4 := by kernel_rfl
def eT : List (List Nat) := (eT0 ++ (eT1 ++ (eT2 ++ (eT3 ++ eT4))))
theorem meT : Tryz.prog.funcs.toList.map Tryz.prog.leadsTo = eT := (Go.Tw.map_split meT0 (Go.Tw.map_split meT1 (Go.Tw.map_split meT2 (Go.Tw.map_split meT3 meT4))))
def cloL : List Nat := [3, 4, 5, 7, 9, 20, 46, 47, 80, 161, 259, 260, 377, 502, 261, 378, 262, 379, 503, 504, 505, 622, 263, 162, 264, 265, 380, 506, 266, 381, 507, 623, 706, 707, 733, 743, 744, 271, 387, 267, 382, 508, 624, 625, 626, 690, 627, 708, 734, 709, 688, 732, 383, 509, 628, 45, 79, 710, 735, 18, 629, 19, 630, 711, 712, 736, 745, 713, 631, 714, 737, 746, 747, 384, 510, 632, 633, 511, 634, 715, 635, 636, 717, 738, 748, 750, 751, 684, 754, 755, 752, 753, 756, 757, 758, 759, 716, 637, 268, 385, 512, 269, 386, 513, 81, 82, 163, 270, 164, 272, 283, 279, 276, 273, 388, 514, 275, 274, 389, 277, 390, 391, 278, 167, 288, 281, 392, 395, 289, 290, 396, 420, 527, 528, 519, 520, 521, 165, 280, 297, 282, 284, 393, 515, 638, 718, 719, 516, 739, 166, 740, 749, 640, 285, 517, 286, 287, 394, 518, 639, 641, 642, 48, 49, 83, 168, 291, 293, 292, 397, 169, 294, 170, 295, 398, 399, 522, 400, 401, 402, 523, 643, 403, 404, 405, 406, 407, 408, 409, 410, 524, 644, 645, 646, 720, 741, 411, 412, 413, 525, 414, 415, 526, 416, 417, 418, 419, 176, 314, 296, 84, 85, 71, 86, 171, 174, 312, 311, 298, 422, 421, 175, 313, 299, 316, 300, 301, 307, 423, 529, 172, 302, 305, 428, 534, 647, 721, 438, 221, 340, 359, 177, 532, 535, 536, 648, 722, 537, 649, 651, 304, 427, 533, 426, 242, 373, 425, 654, 659, 303, 424, 530, 531, 655, 650, 657, 663, 652, 538, 539, 653, 656, 660, 661, 658, 540, 541, 542, 543, 544, 662, 723, 724, 545, 546, 547, 306, 429, 548, 430, 549, 550, 664, 665, 224, 358, 466, 467, 468, 469, 470, 599, 471, 472, 473, 474, 475, 476, 477, 478, 479, 480, 481, 482, 483, 484, 485, 486, 487, 551, 552, 173, 308, 431, 309, 310, 432, 553, 433, 554, 555, 666, 556, 557, 558, 559, 50, 51, 87, 179, 315, 178, 88, 180, 181, 182, 317, 434, 560, 561, 562, 435, 576, 667, 563, 564, 565, 668, 566, 669, 670, 725, 671, 567, 568, 672, 569, 570, 673, 571, 436, 323, 325, 572, 439, 573, 574, 575, 674, 89, 318, 319, 437, 320, 321, 322, 324, 183, 184, 57, 102, 202, 207, 239, 343, 203, 342, 456, 457, 587, 588, 458, 589, 689, 241, 240, 344, 345, 204, 205, 198, 12, 52, 53, 54, 93, 195, 58, 103, 206, 96, 196, 326, 440, 331, 441, 338, 450, 451, 452, 339, 453, 327, 330, 444, 579, 683, 578, 675, 442, 577, 676, 726, 677, 727, 728, 678, 729, 730, 742, 679, 680, 681, 682, 445, 580, 685, 731, 581, 582, 686, 583, 138, 584, 585, 586, 687, 137, 60, 90, 185, 186, 328, 329, 443, 187, 188, 332, 446, 447, 333, 334, 335, 448, 189, 190, 191, 192, 91, 92, 193, 336, 194, 337, 449, 11, 21, 22, 55, 95, 94, 197, 56, 97, 100, 199, 98, 99, 200, 101, 201, 341, 454, 455, 23, 24, 59, 104, 105, 61, 106, 62, 108, 109, 210, 350, 463, 211, 212, 352, 351, 112, 464, 213, 214, 353, 465, 598, 354, 215, 40, 243, 244, 222, 355, 357, 107, 208, 346, 209, 347, 459, 590, 591, 592, 593, 594, 691, 692, 693, 694, 695, 596, 348, 460, 595, 597, 696, 697, 349, 462, 461, 25, 26, 27, 28, 63, 110, 111, 29, 31, 30, 64, 65, 113, 216, 217, 218, 114, 115, 116, 117, 219, 220, 356, 118, 119, 223, 225, 32, 33, 66, 34, 37, 67, 120, 121, 122, 226, 68, 123, 227, 360, 228, 124, 229, 361, 488, 362, 489, 490, 600, 601, 133, 237, 236, 491, 602, 603, 698, 699, 604, 700, 605, 701, 606, 702, 703, 607, 608, 609, 610, 704, 611, 612, 613, 614, 615, 616, 617, 618, 705, 230, 363, 492, 371, 495, 368, 369, 496, 497, 498, 499, 500, 619, 620, 364, 493, 494, 621, 366, 365, 367, 372, 231, 125, 127, 234, 126, 232, 233, 370, 69, 38, 128, 73, 140, 245, 129, 130, 131, 132, 235, 134, 135, 75, 141, 142, 246, 136, 238, 13, 35, 36, 70, 39, 72, 139, 74, 16, 42, 17, 44, 43, 76, 143, 144, 247, 145, 248, 146, 249, 250, 147, 251, 148, 149, 252, 150, 151, 152, 253, 153, 154, 254, 374, 155, 255, 156, 256, 375, 501, 77, 157, 257, 376, 158, 159, 258, 160, 14, 15, 41, 78, 8, 6, 10]
set_option maxRecDepth 1000000 in
theorem cloRun : Go.Tw.cloT (Go.Tw.tabL eT) (1 + Go.Tw.sumE eT) [3] [] .leaf = cloL := by kernel_rfl
theorem cloEq : Tryz.prog.closure 3 = cloL := Go.Tw.closure_tab meT cloRun
def inF (fn : Func) : Option String := if fn.ours || fn.body.isNone || fn.name == "runtime.NumGoroutine" then some fn.name else none
def iT0 : List (Option String) := [some "main.main", some "gosem.cut", none, none, none, none, none, none, none, none, none, none, none, none, none, none, none, none, none, none, none, none, none, none, none, none, none, none, none, none, none, none, none, none, none, none, none, none, none, none, none, none, none, none, none, none, none, none, none, none, none, none, none, none, none, none, none, none, none, none, none, none, none, none, none, none, none, none, none, none, none, none, none, none, none, none, none, none, none, some "internal/abi.NoEscape", none, none, none, none, none, none, none, none, none, none, none, none, none, none, none, none, none, none, none, none, none, none, none, none, none, none, some "sync/atomic.StoreInt64", none, none, none, none, none, none, none, none, none, none, none, none, none, none, none, none, none, none, none, none, none, none, none, none, none, none, none, none, none, none, none, none, none, none, none, none, none, none, none, none, none, none, none, none, none, none, none, none, none, none, none, none, none, none, none, none, none, none, none, none, none, none, none, none, none, none, none, none, none, none, none, none, none, none, none, none, none, none, none, none, none, none, none, none, none, none, none, none, none, none, none, none, none]
set_option maxRecDepth 1000000 in
theorem miT0 : (Tryz.prog.funcs.toList.take 200).map inF = iT0 := by kernel_rfl
def iT1 : List (Option String) := [none, none, none, none, none, none, none, none, none, none, none, none, none, none, none, none, none, none, none, none, none, none, none, none, none, none, some "sync/atomic.AddInt64", none, none, none, none, none, none, none, none, none, none, none, none, none, none, none, none, none, none, some "sync/atomic.LoadInt64", some "sync/atomic.CompareAndSwapInt64", none, none, none, none, none, none, none, none, none, none, none, none, none, none, none, none, none, none, none, none, none, none, none, none, none, none, none, none, none, none, none, none, none, none, none, none, none, none, none, none, none, none, none, none, none, none, none, none, none, none, none, none, none, none, none, none, none, none, none, none, none, none, none, none, none, none, none, none, none, none, none, none, none, none, none, none, none, none, none, none, none, none, none, none, none, none, none, none, none, none, none, none, none, none, none, none, none, none, none, some "sync/atomic.LoadUint32", none, none, none, none, none, none, none, none, none, none, none, none, none, none, none, none, none, none, none, none, none, none, none, none, none, none, none, none, none, none, none, none, none, none, none, none, none, none, none, none, none, none, none, none, none, none, none, none, none, none, none, none, none]
set_option maxRecDepth 1000000 in
theorem miT1 : ((Tryz.prog.funcs.toList.drop 200).take 200).map inF = iT1 := by kernel_rfl
def iT2 : List (Option String) := [none, none, none, none, none, none, none, none, none, none, none, none, none, none, none, none, none, none, none, none, none, none, none, none, none, none, none, none, none, none, none, none, none, none, none, none, none, none, none, none, none, none, none, none, none, none, none, none, none, none, none, none, none, none, none, none, none, none, none, some "(*internal/sync.Mutex).Lock", some "(*internal/sync.Mutex).Unlock", some "sync/atomic.StoreUint32", none, none, none, none, none, none, none, none, none, none, none, none, none, none, none, none, none, none, none, none, none, none, none, none, none, none, none, none, none, none, none, none, none, none, none, none, none, none, none, none, some "internal/bytealg.IndexByteString", some "internal/bytealg.IndexString", none, none, none, none, none, none, none, none, none, none, none, none, none, none, none, none, none, none, none, none, none, none, none, none, none, none, none, none, none, none, none, none, none, none, none, none, none, none, none, none, none, none, none, none, none, none, none, none, none, none, none, none, none, none, none, none, none, none, none, none, none, none, none, none, none, none, none, none, none, none, none, none, none, none, none, none, none, none, none, none, none, none, none, none, some "internal/bytealg.CountString", none, some "internal/race.Disable", some "sync/atomic.CompareAndSwapInt32", some "internal/race.Enable", some "internal/race.Acquire", some "(*internal/sync.Mutex).lockSlow", some "internal/race.ReleaseMerge", some "sync/atomic.AddInt32", some "(*internal/sync.Mutex).unlockSlow", none, none]
set_option maxRecDepth 1000000 in
theorem miT2 : (((Tryz.prog.funcs.toList.drop 200).drop 200).take 200).map inF = iT2 := by kernel_rfl
def iT3 : List (Option String) := [none, none, none, none, none, none, none, none, none, none, none, none, none, none, none, none, none, none, none, none, none, none, none, none, none, none, none, none, none, none, none, none, none, none, none, none, none, none, none, none, none, none, none, none, none, none, none, none, none, none, none, none, none, none, none, none, none, none, none, none, none, none, none, none, none, none, none, none, none, none, none, none, none, none, none, none, none, none, none, none, none, none, none, none, none, none, none, none, none, none, none, some "internal/sync.runtime_canSpin", some "internal/sync.runtime_doSpin", some "internal/sync.throw", some "internal/sync.runtime_nanotime", some "internal/sync.runtime_SemacquireMutex", some "internal/sync.fatal", some "internal/sync.runtime_Semrelease", none, none, none, none, none, none, none, none, none, none, none, none, none, none, none, none, none, none, none, none, none, none, none, none, none, none, none, none, none, none, none, none, none, none, none, none, none, some "internal/bytealg.MakeNoZero", none, none, none, none, none, none, none, none, none, none, none, none, none, none, none, none, none, none, none, none, none, none, none, none, some "(runtime.boundsError).Error", some "(runtime.boundsError).RuntimeError", some "(runtime.errorString).Error", some "(runtime.errorString).RuntimeError", some "(runtime.plainError).Error", some "(runtime.plainError).RuntimeError", some "(runtime.errorAddressString).Error", some "(runtime.errorAddressString).RuntimeError", some "(*runtime.TypeAssertionError).Error", some "(*runtime.TypeAssertionError).RuntimeError", some "(*runtime.PanicNilError).Error", some "(*runtime.PanicNilError).RuntimeError", some "(*internal/abi.Type).Align", some "(*internal/abi.Type).Len", some "(internal/runtime/maps.unhashableTypeError).Error", some "(internal/runtime/maps.unhashableTypeError).RuntimeError", some "(twinshaft/api.Errno).Error", none, some "(*strings.Builder).Reset", none, none, some "(*twinshaft/cache.Cache).Left", some "(*twinshaft/policy.Policy).Asked", some "(*twinshaft/deeds.Tape).Left", none, some "sync/atomic.SwapInt64", none, some "sync/atomic.SwapUint32", none, none, none, none, some "(internal/strconv.Error).Error", some "(*strconv.NumError).Error", some "(*errors.errorString).Error", some "(internal/abi.Kind).String", some "var's door: unicode.White_Space holds what its initialiser lays, and nothing in the loaded text writes it or what it leads to (look 11-elder)", some "var's door: unicode._White_Space holds what its initialiser lays, and nothing in the loaded text writes it or what it leads to (look 11-elder)", some "var's door: gosem.cut.vars holds initialisers alone; see the manifest's row cutvarsword (look 11, test files too)", some "var's door: internal/strconv.uint64pow10 is laid by its own initialiser, plain data (look 11)"]
set_option maxRecDepth 1000000 in
theorem miT3 : ((((Tryz.prog.funcs.toList.drop 200).drop 200).drop 200).take 200).map inF = iT3 := by kernel_rfl
def iT4 : List (Option String) := [some "var's door: math/bits.deBruijn32tab is laid by its own initialiser, plain data (look 11)", some "var's door: math/bits.deBruijn64tab is laid by its own initialiser, plain data (look 11)", some "var's door: strconv.ErrRange is laid by its own call of errors.New on one literal (look 11)", some "var's door: strconv.ErrSyntax is laid by its own call of errors.New on one literal (look 11)", some "var's door: strings.asciiSpace is laid by its own initialiser, plain data (look 11)", some "var's door: the look of gosem.cut.vars went over the folder that the caller named as the repository's root (look 11)", some "var's door: unicode.CaseRanges is laid by its text alone (pinned 1)", some "var's door: unicode.White_Space is laid by its own initialiser, on the list of Go's own tables (list 10)", some "var's door: unicode._White_Space is laid by its own initialiser, on the list of Go's own tables (list 10)", some "var's door: unicode/utf8.acceptRanges is laid by its own initialiser, plain data (look 11)", some "var's door: unicode/utf8.first is laid by its text alone (pinned 1)", none]
set_option maxRecDepth 1000000 in
theorem miT4 : ((((Tryz.prog.funcs.toList.drop 200).drop 200).drop 200).drop 200).map inF = iT4 := by kernel_rfl
def iT : List (Option String) := (iT0 ++ (iT1 ++ (iT2 ++ (iT3 ++ iT4))))
theorem miT : Tryz.prog.funcs.toList.map inF = iT := (Go.Tw.map_split miT0 (Go.Tw.map_split miT1 (Go.Tw.map_split miT2 (Go.Tw.map_split miT3 miT4))))
set_option maxRecDepth 1000000 in
theorem inRun : Go.Tw.gatherT (Go.Tw.tabL iT) cloL = Rows.buildKnownRow.inPlace := by kernel_rfl
theorem inEq : Tryz.prog.inPlace 3 = Rows.buildKnownRow.inPlace := by
  unfold Program.inPlace
  rw [cloEq]
  exact (Go.Tw.gather_tab miT cloL).trans inRun
theorem buildKnown_fact9 : ((Rows.buildKnownRow.inPlace == Tryz.prog.inPlace 3)) = true := by
  rw [inEq]; exact beq_self_eq_true _
set_option maxRecDepth 1000000 in
theorem unfEq : Tryz.prog.unfollowed 3 = true := by
  unfold Program.unfollowed
  rw [cloEq]
  kernel_rfl
theorem buildKnown_fact10 : ((Rows.buildKnownRow.unfollowed == Tryz.prog.unfollowed 3)) = true := by
  rw [unfEq]; rfl
theorem recEq : Tryz.prog.recurses 3 = true := by
  unfold Program.recurses
  rw [unfEq]; rfl
theorem buildKnown_fact11 : ((Rows.buildKnownRow.recurses == Tryz.prog.recurses 3)) = true := by
  rw [recEq]; rfl
theorem flat_body {P : Program} {k : Code → List Nat} {H : List (List Nat)} (hH : P.funcs.toList.map (fun fn => fn.body.elim [] k) = H) (L : List Nat) : (L.flatMap fun g => ((P.funcs[g]?).bind (·.body)).elim [] k) = Go.Tw.flatT (Go.Tw.tabL H) L := by
  rw [← Go.Tw.flat_tab hH]
  congr 1
  funext g
  cases P.funcs[g]? <;> rfl
def gF (fn : Func) : List Nat := fn.body.elim [] Code.globalsNamed
def gT0 : List (List Nat) := [[], [], [], [], [], [], [], [], [], [], [], [], [], [], [], [], [], [], [], [], [], [], [], [], [], [], [], [], [], [], [], [], [], [], [], [], [], [], [], [], [], [], [], [], [], [], [], [], [], [], [], [], [], [], [], [], [], [], [], [], [], [], [], [], [], [], [], [], [], [], [], [], [], [], [], [], [], [], [], [], [], [], [], [], [], [], [], [], [], [], [], [], [], [], [], [], [], [], [], [], [], [], [], [], [], [], [], [], [], [], [], [], [], [], [], [], [], [], [], [], [], [], [], [], [], [], [], [], [], [], [], [], [], [], [], [], [], [], [], [], [], [], [], [], [], [], [], [], [], [], [], [], [], [], [], [], [], [], [], [], [], [], [], [], [], [], [], [], [], [], [], [], [], [], [], [], [], [], [], [], [], [], [], [], [], [], [], [], [], [], [], [], [], [], [], [], [], [], [], []]
set_option maxRecDepth 1000000 in
theorem mgT0 : (Tryz.prog.funcs.toList.take 200).map gF = gT0 := by kernel_rfl
def gT1 : List (List Nat) := [[], [], [], [], [], [], [], [], [], [], [], [], [], [], [], [], [], [], [], [], [], [], [], [], [], [], [], [], [], [], [], [], [], [], [], [], [], [], [], [], [], [], [], [], [], [], [], [], [], [], [], [], [], [], [], [], [], [], [], [], [], [], [], [], [], [], [], [], [], [], [], [], [], [], [], [], [], [], [], [], [], [], [], [], [], [], [], [], [], [], [], [], [], [], [], [], [], [], [], [], [], [], [], [], [], [], [], [], [], [], [], [], [], [], [], [], [], [], [], [], [], [], [], [], [], [], [], [], [], [], [], [], [], [], [], [], [], [], [], [], [], [], [], [], [], [], [], [], [], [], [], [], [], [], [], [], [], [], [], [], [], [], [], [], [], [], [], [], [], [], [], [], [], [], [], [], [], [], [], [0, 0, 0], [], [], [], [], [], [], [], [], [], [], [], [], [], [], [], [], [], [], [], []]
set_option maxRecDepth 1000000 in
theorem mgT1 : ((Tryz.prog.funcs.toList.drop 200).take 200).map gF = gT1 := by kernel_rfl
def gT2 : List (List Nat) := [[], [], [], [], [], [], [], [], [], [], [], [], [], [], [], [], [], [], [], [], [], [], [], [], [], [], [], [], [], [], [], [], [], [], [], [], [], [], [], [], [], [], [], [], [], [], [], [], [], [], [], [], [], [], [], [], [], [], [], [], [], [], [], [], [], [], [], [], [], [], [], [], [], [], [], [], [], [], [], [], [], [], [], [], [], [], [], [], [], [], [], [], [], [], [], [], [], [], [], [], [], [], [], [], [], [], [], [], [], [], [], [], [], [], [], [], [], [], [], [], [], [], [], [], [], [], [], [], [], [], [], [], [], [], [], [], [], [], [], [], [], [], [], [], [], [], [], [], [], [], [], [], [], [], [], [], [], [], [], [], [], [], [], [], [], [], [], [], [], [], [], [], [], [], [], [], [], [], [], [], [], [], [], [], [], [], [], [], [], [], [], [], [], [], [], [], [], [], [], []]
set_option maxRecDepth 1000000 in
theorem mgT2 : (((Tryz.prog.funcs.toList.drop 200).drop 200).take 200).map gF = gT2 := by kernel_rfl
def gT3 : List (List Nat) := [[], [], [], [], [], [], [], [], [], [], [], [], [], [], [], [], [], [], [], [], [], [], [], [1, 1, 1, 1], [], [], [], [], [], [], [], [], [], [], [2], [3], [], [], [], [], [], [], [], [], [], [], [], [], [], [], [], [], [], [], [], [], [], [], [], [], [], [], [], [], [], [], [], [], [], [], [], [], [], [], [], [], [], [], [], [], [], [], [], [], [], [], [], [], [], [], [], [], [], [], [], [], [], [], [], [], [], [], [], [], [], [], [], [4], [], [], [], [], [], [], [5], [], [], [], [], [], [], [], [], [], [], [], [], [], [], [], [], [], [], [], [6, 7], [], [], [], [], [], [], [], [], [], [], [], [], [], [], [], [], [8], [], [], [], [], [], [], [9], [10], [], [], [], [], [], [], [], [], [], [], [], [], [], [], [], [], [], [], [], [], [], [], [], [], [], [], [], [], [], [], [], [], [], [], [], [], [], [], [], []]
set_option maxRecDepth 1000000 in
theorem mgT3 : ((((Tryz.prog.funcs.toList.drop 200).drop 200).drop 200).take 200).map gF = gT3 := by kernel_rfl
def gT4 : List (List Nat) := [[], [], [], [], [], [], [], [], [], [], [], [9, 10, 8, 7, 3, 2, 11, 11, 4, 1]]
set_option maxRecDepth 1000000 in
theorem mgT4 : ((((Tryz.prog.funcs.toList.drop 200).drop 200).drop 200).drop 200).map gF = gT4 := by kernel_rfl
def gT : List (List Nat) := (gT0 ++ (gT1 ++ (gT2 ++ (gT3 ++ gT4))))
theorem mgT : Tryz.prog.funcs.toList.map gF = gT := (Go.Tw.map_split mgT0 (Go.Tw.map_split mgT1 (Go.Tw.map_split mgT2 (Go.Tw.map_split mgT3 mgT4))))
def rF (fn : Func) : Option String := if fn.body.isNone then entryReads.lookup fn.name else none
def rT0 : List (Option String) := [none, none, none, none, none, none, none, none, none, none, none, none, none, none, none, none, none, none, none, none, none, none, none, none, none, none, none, none, none, none, none, none, none, none, none, none, none, none, none, none, none, none, none, none, none, none, none, none, none, none, none, none, none, none, none, none, none, none, none, none, none, none, none, none, none, none, none, none, none, none, none, none, none, none, none, none, none, none, none, none, none, none, none, none, none, none, none, none, none, none, none, none, none, none, none, none, none, none, none, none, none, none, none, none, none, none, none, none, none, none, none, none, none, none, none, none, none, none, none, none, none, none, none, none, none, none, none, none, none, none, none, none, none, none, none, none, none, none, none, none, none, none, none, none, none, none, none, none, none, none, none, none, none, none, none, none, none, none, none, none, none, none, none, none, none, none, none, none, none, none, none, none, none, none, none, none, none, none, none, none, none, none, none, none, none, none, none, none, none, none, none, none, none, none, none, none, none, none, none, none]
set_option maxRecDepth 1000000 in
theorem mrT0 : (Tryz.prog.funcs.toList.take 200).map rF = rT0 := by kernel_rfl
def rT1 : List (Option String) := [none, none, none, none, none, none, none, none, none, none, none, none, none, none, none, none, none, none, none, none, none, none, none, none, none, none, none, none, none, none, none, none, none, none, none, none, none, none, none, none, none, none, none, none, none, none, none, none, none, none, none, none, none, none, none, none, none, none, none, none, none, none, none, none, none, none, none, none, none, none, none, none, none, none, none, none, none, none, none, none, none, none, none, none, none, none, none, none, none, none, none, none, none, none, none, none, none, none, none, none, none, none, none, none, none, none, none, none, none, none, none, none, none, none, none, none, none, none, none, none, none, none, none, none, none, none, none, none, none, none, none, none, none, none, none, none, none, none, none, none, none, none, none, none, none, none, none, none, none, none, none, none, none, none, none, none, none, none, none, none, none, none, none, none, none, none, none, none, none, none, none, none, none, none, none, none, none, none, none, none, none, none, none, none, none, none, none, none, none, none, none, none, none, none, none, none, none, none, none, none]
set_option maxRecDepth 1000000 in
theorem mrT1 : ((Tryz.prog.funcs.toList.drop 200).take 200).map rF = rT1 := by kernel_rfl
def rT2 : List (Option String) := [none, none, none, none, none, none, none, none, none, none, none, none, none, none, none, none, none, none, none, none, none, none, none, none, none, none, none, none, none, none, none, none, none, none, none, none, none, none, none, none, none, none, none, none, none, none, none, none, none, none, none, none, none, none, none, none, none, none, none, none, none, none, none, none, none, none, none, none, none, none, none, none, none, none, none, none, none, none, none, none, none, none, none, none, none, none, none, none, none, none, none, none, none, none, none, none, none, none, none, none, none, none, none, some "internal/bytealg.MaxLen", none, none, none, none, none, none, none, none, none, none, none, none, none, none, none, none, none, none, none, none, none, none, none, none, none, none, none, none, none, none, none, none, none, none, none, none, none, none, none, none, none, none, none, none, none, none, none, none, none, none, none, none, none, none, none, none, none, none, none, none, none, none, none, none, none, none, none, none, none, none, none, none, none, none, none, none, none, none, none, none, none, none, none, none, none, none, none, none, none, none, none, none, none, none, none, none]
set_option maxRecDepth 1000000 in
theorem mrT2 : (((Tryz.prog.funcs.toList.drop 200).drop 200).take 200).map rF = rT2 := by kernel_rfl
def rT3 : List (Option String) := [none, none, none, none, none, none, none, none, none, none, none, none, none, none, none, none, none, none, none, none, none, none, none, none, none, none, none, none, none, none, none, none, none, none, none, none, none, none, none, none, none, none, none, none, none, none, none, none, none, none, none, none, none, none, none, none, none, none, none, none, none, none, none, none, none, none, none, none, none, none, none, none, none, none, none, none, none, none, none, none, none, none, none, none, none, none, none, none, none, none, none, none, none, none, none, none, none, none, none, none, none, none, none, none, none, none, none, none, none, none, none, none, none, none, none, none, none, none, none, none, none, none, none, none, none, none, none, none, none, none, none, none, none, none, none, none, none, none, none, none, none, none, none, none, none, none, none, none, none, none, none, none, none, none, none, none, none, none, none, none, none, none, none, none, none, none, none, none, none, none, none, none, none, none, none, none, none, none, none, none, none, none, none, none, none, none, none, none, none, none, none, none, none, none, none, none, none, none, none, none]
set_option maxRecDepth 1000000 in
theorem mrT3 : ((((Tryz.prog.funcs.toList.drop 200).drop 200).drop 200).take 200).map rF = rT3 := by kernel_rfl
def rT4 : List (Option String) := [none, none, none, none, none, none, none, none, none, none, none, none]
set_option maxRecDepth 1000000 in
theorem mrT4 : ((((Tryz.prog.funcs.toList.drop 200).drop 200).drop 200).drop 200).map rF = rT4 := by kernel_rfl
def rT : List (Option String) := (rT0 ++ (rT1 ++ (rT2 ++ (rT3 ++ rT4))))
theorem mrT : Tryz.prog.funcs.toList.map rF = rT := (Go.Tw.map_split mrT0 (Go.Tw.map_split mrT1 (Go.Tw.map_split mrT2 (Go.Tw.map_split mrT3 mrT4))))
set_option maxRecDepth 1000000 in
theorem namedRun : ((((Go.Tw.flatT (Go.Tw.tabL gT) cloL).eraseDups).filterMap fun g => (Tryz.prog.globals[g]?).map (·.name)) ++ Go.Tw.gatherT (Go.Tw.tabL rT) cloL).eraseDups = Rows.buildKnownRow.named := by kernel_rfl
theorem namedEq : Tryz.prog.varsNamed 3 = Rows.buildKnownRow.named := by
  unfold Program.varsNamed
  rw [cloEq, flat_body (k := Code.globalsNamed) mgT, show (cloL.filterMap fun g => (Tryz.prog.funcs[g]?).bind fun fn => if fn.body.isNone then entryReads.lookup fn.name else none) = Go.Tw.gatherT (Go.Tw.tabL rT) cloL from Go.Tw.gather_tab mrT cloL]
  exact namedRun
theorem buildKnown_fact12 : ((Rows.buildKnownRow.named == Tryz.prog.varsNamed 3)) = true := by
  rw [namedEq]; exact beq_self_eq_true _
set_option maxRecDepth 1000000 in
theorem buildKnown_fact13 : ((Rows.buildKnownRow.maps == (Tryz.f3.params.toList ++ Rows.buildKnownSpec.plain.varTypes Tryz.prog).any (Tryz.prog.mapsRec ·))) = true := by kernel_rfl
set_option maxRecDepth 1000000 in
theorem buildKnown_fact14 : ((Rows.buildKnownRow.ifaces == (Tryz.f3.params.toList ++ Rows.buildKnownSpec.plain.varTypes Tryz.prog).any (Tryz.prog.ifacesRec ·))) = true := by kernel_rfl
set_option maxRecDepth 1000000 in
theorem buildKnown_fact15 : ((Rows.buildKnownRow.mapsOut == Tryz.prog.mapsAmong Tryz.f3.resultTypes.toList)) = true := by kernel_rfl
set_option maxRecDepth 1000000 in
theorem buildKnown_fact16 : ((Rows.buildKnownRow.loops == (Tryz.f3.params.toList ++ Rows.buildKnownSpec.plain.varTypes Tryz.prog).any (Tryz.prog.loopsFrom ·))) = true := by kernel_rfl
set_option maxRecDepth 1000000 in
theorem buildKnown_fact17 : ((Rows.buildKnownRow.wideKeys == (Tryz.f3.params.toList ++ Rows.buildKnownSpec.plain.varTypes Tryz.prog ++ Tryz.f3.resultTypes.toList).any (Tryz.prog.wideKeysFrom ·))) = true := by kernel_rfl
set_option maxRecDepth 1000000 in
theorem buildKnown_fact18 : (Rows.buildKnownSpec.vars.all (Tryz.prog.varReadable ·)) = true := by kernel_rfl
set_option maxRecDepth 1000000 in
theorem buildKnown_fact19 : (Tryz.f3.resultTypes.all (fun t => Tryz.prog.readableRec t && decide (t < Tryz.prog.types.size))) = true := by kernel_rfl
set_option maxRecDepth 1000000 in
theorem buildKnown_fact20 : ((Rows.buildKnownRow.ifacesOut == Tryz.f3.resultTypes.toList.any (Tryz.prog.ifacesRec ·))) = true := by kernel_rfl
set_option maxRecDepth 1000000 in
theorem buildKnown_fact21 : ((Rows.buildKnownRow.loopsOut == Tryz.f3.resultTypes.toList.any (Tryz.prog.loopsFrom ·))) = true := by kernel_rfl
set_option maxRecDepth 1000000 in
theorem buildKnown_fact22 : ((Rows.buildKnownRow.plainKeys == Tryz.prog.plainKeys)) = true := by kernel_rfl
set_option maxRecDepth 1000000 in
theorem buildKnown_fact23 : (Rows.buildKnownRow.shortTexts.isNone) = true := by kernel_rfl
set_option maxRecDepth 1000000 in
theorem buildKnown_fact24 : (Tryz.prog.stopsHeard) = true := by kernel_rfl
set_option maxRecDepth 1000000 in
theorem buildKnown_fact25 : (Tryz.prog.mayEnter) = true := by kernel_rfl
set_option maxRecDepth 1000000 in
theorem buildKnown_fact26 : ((Rows.buildKnownRow.lifted == Tryz.prog.liftsFinal)) = true := by kernel_rfl
set_option maxRecDepth 1000000 in
theorem buildKnown_fact27 : ((Tryz.prog.make == some Rows.buildKnownRow.make)) = true := by kernel_rfl
set_option maxRecDepth 1000000 in
theorem buildKnown_fact28 : ((Rows.buildKnownRow.kinds == (if Rows.buildKnownRow.domain.isEmpty then [] else Tryz.f3.params.toList.map fun t => match Tryz.prog.underlying t with | some (.int k) => some k | _ => none))) = true := by kernel_rfl
set_option maxRecDepth 1000000 in
theorem buildKnown_fact29 : ((Rows.buildKnownRow.pinned == Rows.buildKnownRow.pinnedBy)) = true := by kernel_rfl
set_option maxRecDepth 1000000 in
theorem buildKnown_fact30 : ((Rows.buildKnownRow.veiled == (Tryz.f3.params.toList ++ Rows.buildKnownSpec.plain.varTypes Tryz.prog ++ Tryz.f3.resultTypes.toList).any (Tryz.prog.veiledRec ·))) = true := by kernel_rfl
set_option maxRecDepth 1000000 in
theorem buildKnown_fact31 : (Rows.buildKnownRow.veiledFits Tryz.prog Tryz.f3.params.toList (Tryz.f3.params.toList ++ Rows.buildKnownSpec.plain.varTypes Tryz.prog ++ Tryz.f3.resultTypes.toList)) = true := by kernel_rfl
theorem band {a b : Bool} (h : a = true) (k : b = true) : (a && b) = true := by rw [h, k]; rfl
set_option maxRecDepth 1000000 in
theorem buildKnown_closed : joinedFacts Tryz.prog 3 Tryz.f3 Rows.buildKnownSpec Rows.buildKnownRow = true := by
  unfold joinedFacts
  refine band ?_ buildKnown_fact31
  refine band ?_ buildKnown_fact30
  refine band ?_ buildKnown_fact29
  refine band ?_ buildKnown_fact28
  refine band ?_ buildKnown_fact27
  refine band ?_ buildKnown_fact26
  refine band ?_ buildKnown_fact25
  refine band ?_ buildKnown_fact24
  refine band ?_ buildKnown_fact23
  refine band ?_ buildKnown_fact22
  refine band ?_ buildKnown_fact21
  refine band ?_ buildKnown_fact20
  refine band ?_ buildKnown_fact19
  refine band ?_ buildKnown_fact18
  refine band ?_ buildKnown_fact17
  refine band ?_ buildKnown_fact16
  refine band ?_ buildKnown_fact15
  refine band ?_ buildKnown_fact14
  refine band ?_ buildKnown_fact13
  refine band ?_ buildKnown_fact12
  refine band ?_ buildKnown_fact11
  refine band ?_ buildKnown_fact10
  refine band ?_ buildKnown_fact9
  refine band ?_ buildKnown_fact8
  refine band ?_ buildKnown_fact7
  refine band ?_ buildKnown_fact6
  refine band ?_ buildKnown_fact5
  refine band ?_ buildKnown_fact4
  refine band ?_ buildKnown_fact3
  refine band ?_ buildKnown_fact2
  refine band ?_ buildKnown_fact1
  exact buildKnown_fact0
end Go.Proofs.YtbbnjiceenjhcaaGreatDoor
